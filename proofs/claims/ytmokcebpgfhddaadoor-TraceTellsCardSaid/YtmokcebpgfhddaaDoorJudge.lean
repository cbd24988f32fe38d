/- trace.Judge: it tells how many decisions are fine, and whether all are. -/
import Derived.Test.YtmokcebpgfhddaaDoorWords
import Derived.Test.YtmokcebpgfhddaaDoorFine
namespace Go.Proofs.YtmokcebpgfhddaaDoor
open Go.RowKit

/-- How far decisions are fine, from j on. -/
def runJ : Jd → List Dec → Nat × Jd
  | j, [] => (0, j)
  | j, d :: l => if (j.fine d).1 = true then ((runJ (j.fine d).2 l).1 + 1, (runJ (j.fine d).2 l).2) else (0, j)

theorem runJ_le : ∀ (l : List Dec) (j : Jd), (runJ j l).1 ≤ l.length
  | [], _ => Nat.le_refl _
  | d :: l, j => by
    unfold runJ
    split
    · simpa using runJ_le l _
    · simp
theorem drop_cons {α : Type} (l : List α) (k : Nat) (h : k < l.length) : l.drop k = l[k] :: l.drop (k + 1) := List.drop_eq_getElem_cons h

set_option maxHeartbeats 4000000 in
theorem judge_calls (w : World) (A : Option Addr) (c : Nat) (l : List Dec) (hl : l.length ≤ 35184372088832) (F : Nat → Prop) (hr : decC.R F w A l) :
    Calls Tryd.prog 16 #[.slice A l.length c] w fun e w' => e = .returned (.tuple #[.int .i64 (runJ ⟨0, 0, false⟩ l).1, .bool (decide ((runJ ⟨0, 0, false⟩ l).1 = l.length))]) ∧ Below w.heap.size w w' := by
  have HR := Lib.hid hr; clear hr
  obtain ⟨R, hR⟩ : ∃ R, R = runJ ⟨0, 0, false⟩ l := ⟨_, rfl⟩
  rw [← hR]
  have HRun := Lib.hid hR; clear hR
  go_enter Tryd.func16, Tryd.ntmps16
  go_wp2
  go_loopw [9] (fun i wr => ∃ (k : Nat) (j : Jd), k ≤ l.length ∧ i = .int .i64 k ∧ Hid (IsJ wr w.heap.size j) ∧ Hid (Below w.heap.size w wr) ∧ Hid (R.1 = (runJ j (l.drop k)).1 + k))
    (fun i _ => l.length - (intOf i).toNat)
  case atStart => exact ⟨0, ⟨0, 0, false⟩, Nat.zero_le _, rfl, Blk.new _ _ _, (Below.refl _ _).alloc (Nat.le_refl _) _, by rw [HRun.out]; rfl⟩
  case round =>
    obtain ⟨k, j, hk, rfl, hj, hb, hrun⟩ := hrel
    by_cases hlt : k < l.length
    · obtain ⟨b, o, rfl, hbl, h0, h1, h2, h3⟩ := (HR.out.keep (Keeps.of_below hb.out fun k _ h => h)).dec k hlt
      have hs : w.heap.size < wr.heap.size := hj.out.lt
      have hd := Lib.hid (drop_cons l k hlt)
      obtain ⟨⟨a0, a1, a2, a3⟩, hdd⟩ : ∃ d, d = l[k] := ⟨_, rfl⟩
      rw [← hdd] at h0 h1 h2 h3 hd
      clear hdd
      have hd' := hd; clear hd
      rcases Bool.eq_false_or_eq_true (j.fine ⟨a0, a1, a2, a3⟩).1 with hf | hf
      · go_wp2_with (go_at_call 49; refine (fine_calls _ w.heap.size j ⟨_, _, _, _⟩ (hj.out.alloc _)).mono ?_; rintro e w' ⟨rfl, hj2, hu2⟩)
        refine ⟨⟨k + 1, (j.fine ⟨a0, a1, a2, a3⟩).2, by omega, by go_num, hj2, ((hb.out.alloc (Nat.le_of_lt hs) _).upd hu2 (fun k hk => Nat.le_of_eq hk.symm) (by simp; omega)), ?_⟩, by simp [intOf]; omega⟩
        have e1 : R.1 = (runJ j (l.drop k)).1 + k := hrun
        rw [hd'.out] at e1
        simp only [runJ, hf, if_true] at e1
        show R.1 = _
        omega
      · go_wp2_with (go_at_call 49; refine (fine_calls _ w.heap.size j ⟨_, _, _, _⟩ (hj.out.alloc _)).mono ?_; rintro e w' ⟨rfl, hj2, hu2⟩)
        go_ret2
        have e1 : R.1 = (runJ j (l.drop k)).1 + k := hrun
        rw [hd'.out] at e1
        simp only [runJ, hf] at e1
        have e2 : R.1 = k := by simpa using e1
        rw [e2]
        exact ⟨by simp; omega, ((hb.out.alloc (Nat.le_of_lt hs) _).upd hu2 (fun k hk => Nat.le_of_eq hk.symm) (by simp; omega))⟩
    · have e1 : R.1 = (runJ j (l.drop k)).1 + k := hrun
      rw [List.drop_of_length_le (by omega)] at e1
      have e2 : R.1 = l.length := by simp only [runJ] at e1; omega
      have E2 := Lib.hid e2
      clear e1 e2
      go_wp2
      go_ret2
      rw [E2.out]
      exact ⟨by simp, hb.out⟩
end Go.Proofs.YtmokcebpgfhddaaDoor
