/- squelchref23.Text: the same points. -/
import Derived.Test.YtmokcebpgfhddaaDoorRefWord
namespace Go.Proofs.YtmokcebpgfhddaaDoor
open Go.RowKit

theorem letter_at (s : ByteArray) (pos : Nat) (h : pos < s.size) (h2 : (Utf8.decode s pos).1 ≤ 122) : s.extract pos (pos + 1) = ⟨(Lib.encodeRune (Utf8.decode s pos).1).toArray⟩ := by
  have ha : (s[pos]'h).toNat < 128 := by
    rcases Nat.lt_or_ge (s[pos]'h).toNat 128 with ha | ha
    · exact ha
    · have := (decode_high s pos h ha).1; omega
  rw [decode_ascii s pos h ha]
  have e : Lib.encodeRune ((s[pos]'h).toNat : Int) = [s[pos]'h] := by
    unfold Lib.encodeRune
    rw [Lib.encodeRuneZ_one (by omega) (by omega)]
    simp
  rw [e]
  apply ByteArray.ext
  rw [ByteArray.data_extract]
  apply Array.ext
  · simp; omega
  · intro i h1 h3
    simp at h3
    subst h3
    simp
    rfl

set_option maxHeartbeats 4000000 in
set_option maxRecDepth 1000000 in
theorem refText_calls (s : ByteArray) (w : World) (hs : s.size ≤ 35184372088832) :
    Calls Tryd.prog 14 #[.string s] w fun e w' => e = .returned (.string ⟨(points s).toArray⟩) ∧ Below w.heap.size w w' := by
  go_enter Tryd.func14, Tryd.ntmps14
  go_wp2
  go_loopw [3] (fun out wr => ∃ (pos fuel : Nat) (acc : List UInt8), out = .string ⟨acc.toArray⟩ ∧ wr.heap[w.heap.size]? = some (.stringIter s pos) ∧ Below w.heap.size w wr ∧ acc ++ pointsFrom s fuel pos = points s ∧ s.size ≤ pos + fuel ∧ acc.length ≤ 4 * pos) (fun _ wr => s.size - wr.iterPos w.heap.size)
  case atStart =>
    refine ⟨0, s.size, [], rfl, ?_, (Below.refl _ w).alloc (Nat.le_refl _) _, rfl, by omega, by simp⟩
    exact World.iter_heap w s 0
  case round =>
    obtain ⟨pos, fuel, acc, rfl, hit, hbw, hacc, hfu, hal⟩ := hrel
    have hsz : w.heap.size < wr.heap.size := (Array.getElem?_eq_some_iff.1 hit).1
    by_cases hp : pos < s.size
    · have hnx : ∀ ty, (Instr.next (.pointer (some ⟨w.heap.size, 0, none⟩)) true ty).run Tryd.prog wr = _ := fun ty => Lib.run_next_any_at wr w.heap.size s pos ty hit hp
      have hwd := width_pos s pos hp
      have hd1 := decode_le s pos
      have hit2 := Lib.iterAt_heap wr w.heap.size s pos (pos + (Utf8.decode s pos).2) hit
      have hbw2 := Lib.below_iterAt hbw (k := w.heap.size) (by omega) s (pos + (Utf8.decode s pos).2)
      obtain ⟨f, rfl⟩ : ∃ f, fuel = f + 1 := ⟨fuel - 1, by omega⟩
      have hacc2 : (acc ++ Lib.encodeRune (pt (Utf8.decode s pos).1)) ++ pointsFrom s f (pos + (Utf8.decode s pos).2) = points s := by rw [← hacc, pointsFrom, if_pos hp, List.append_assoc]
      have HA := Lib.hid hacc2
      clear hacc hacc2
      rcases Bool.eq_false_or_eq_true (decide (97 ≤ ((Utf8.decode s pos).1 : Int))) with c1 | c1
      · rcases Bool.eq_false_or_eq_true (decide (((Utf8.decode s pos).1 : Int) ≤ 122)) with c2 | c2
        · go_wp2
          have hpt : pt (Utf8.decode s pos).1 = ((Utf8.decode s pos).1 : Int) := by unfold pt; rw [if_neg (by have := of_decide_eq_true c1; have := of_decide_eq_true c2; omega)]
          have HA2 := HA.out
          rw [hpt] at HA2
          refine ⟨⟨pos + (Utf8.decode s pos).2, f, acc ++ Lib.encodeRune ((Utf8.decode s pos).1 : Int), ?_, hit2, hbw2, HA2, by omega, ?_⟩, ?_⟩
          · rw [letter_at s pos hp (by have := of_decide_eq_true c2; omega)]; simp only [Value.string.injEq]; apply ByteArray.ext; simp
          · have hl4 := Lib.runeCells_le ((Utf8.decode s pos).1 : Int)
            rw [Lib.runeCells_length] at hl4
            simp; omega
          · simp only [World.iterPos, hit2, hit]
            omega
        · go_wp2
          have hpt : pt (Utf8.decode s pos).1 = (46 : Int) := by unfold pt; rw [if_pos (by have := of_decide_eq_false c2; omega)]
          have HA2 := HA.out
          rw [hpt] at HA2
          refine ⟨⟨pos + (Utf8.decode s pos).2, f, acc ++ Lib.encodeRune (46 : Int), ?_, hit2, hbw2, HA2, by omega, ?_⟩, ?_⟩
          · rw [show Lib.encodeRune 46 = [46] from by decide +kernel]; simp only [Value.string.injEq]; apply ByteArray.ext; simp
          · have hl4 := Lib.runeCells_le (46 : Int)
            rw [Lib.runeCells_length] at hl4
            simp; omega
          · simp only [World.iterPos, hit2, hit]
            omega
      · go_wp2
        have hpt : pt (Utf8.decode s pos).1 = (46 : Int) := by unfold pt; rw [if_pos (by have := of_decide_eq_false c1; omega)]
        have HA2 := HA.out
        rw [hpt] at HA2
        refine ⟨⟨pos + (Utf8.decode s pos).2, f, acc ++ Lib.encodeRune (46 : Int), ?_, hit2, hbw2, HA2, by omega, ?_⟩, ?_⟩
        · rw [show Lib.encodeRune 46 = [46] from by decide +kernel]; simp only [Value.string.injEq]; apply ByteArray.ext; simp
        · have hl4 := Lib.runeCells_le (46 : Int)
          rw [Lib.runeCells_length] at hl4
          simp; omega
        · simp only [World.iterPos, hit2, hit]
          omega
    · have hnx : ∀ ty, (Instr.next (.pointer (some ⟨w.heap.size, 0, none⟩)) true ty).run Tryd.prog wr = _ := fun ty => Lib.run_next_end_at wr w.heap.size s pos ty hit hp
      go_wp2
      go_ret
      rw [pointsFrom_end s fuel pos hp, List.append_nil] at hacc
      subst hacc
      exact ⟨rfl, hbw⟩
end Go.Proofs.YtmokcebpgfhddaaDoor
