/- trace.Holders: who had each epoch. -/
import Derived.Test.YtmokcebpgfhddaaDoorParts
namespace Go.Proofs.YtmokcebpgfhddaaDoor
open Go.RowKit

def intA (x : Int) : Array Value := #[.int .i64 x]
def intC : Cod Int := Cod.flat 1 intA fun _ => rfl
theorem info3 : (Tryd.prog.info? 3).map (fun i => (i.zero, i.size, i.bytes)) = some (some (.int .i64 0), 1, 8) := by kernel_rfl
def whoOf : List Dec → Int
  | d :: _ => d.who
  | [] => 0
def holders (l : List Dec) : List Int := (partsJ ⟨0, 0, false⟩ [] [] l).tail.map whoOf

theorem partsJ_ne : ∀ (l : List Dec) (j : Jd) (part : List Dec) (out : List (List Dec)), (∀ p ∈ (out ++ [part]).tail, p ≠ []) → partsJ j part out l ≠ [] ∧ ∀ p ∈ (partsJ j part out l).tail, p ≠ []
  | [], j, part, out, h => ⟨by simp [partsJ], h⟩
  | d :: l, j, part, out, h => by
    unfold partsJ
    split
    · split
      · refine partsJ_ne l _ _ _ fun p hp => ?_
        rw [List.tail_append_of_ne_nil (by simp)] at hp
        rcases List.mem_append.1 hp with hp | hp
        · exact h p hp
        · simp at hp; subst hp; simp
      · refine partsJ_ne l _ _ _ fun p hp => ?_
        cases out with
        | nil => simp at hp
        | cons q out =>
          simp only [List.cons_append, List.tail_cons, List.mem_append, List.mem_singleton] at hp
          rcases hp with hp | hp
          · exact h p (by simp [hp])
          · subst hp; simp
    · exact ⟨by simp, h⟩

theorem partsJ_length : ∀ (l : List Dec) (j : Jd) (part : List Dec) (out : List (List Dec)), (partsJ j part out l).length ≤ out.length + 1 + l.length
  | [], j, part, out => by simp [partsJ]
  | d :: l, j, part, out => by
    unfold partsJ
    split
    · split
      · have := partsJ_length l (j.fine d).2 [d] (out ++ [part])
        simp at this ⊢; omega
      · have := partsJ_length l (j.fine d).2 (part ++ [d]) out
        simp at this ⊢; omega
    · simp

theorem Cod.R.sliceAt {α : Type} {c : Cod α} {F : Nat → Prop} {w : World} {A : Option Addr} {xss : List (List α)} (h : c.slice.R F w A xss) (i : Nat) (hi : i < xss.length) : ∃ b o A' n', A = some ⟨b, o, none⟩ ∧ F b ∧ b < w.heap.size ∧
    w.cell? ⟨b, o + i, none⟩ = some (.slice A' xss[i].length n') ∧ xss[i].length ≤ n' ∧ c.R F w A' xss[i] := by
  obtain ⟨b, o, cs, e, hf, hl, ⟨v, rfl, ⟨A', n', rfl, hn, _, hr⟩⟩, hc⟩ := h i hi
  have := hc 0 (by show 0 < 1; omega)
  rw [show o + i * c.slice.sz + 0 = o + i from by show o + i * 1 + 0 = _; omega] at this
  exact ⟨b, o, A', n', e, hf, hl, this, hn, hr⟩

set_option maxHeartbeats 4000000 in
theorem holders_calls (w : World) (A : Option Addr) (c : Nat) (l : List Dec) (hl : l.length ≤ 1048576) (F : Nat → Prop) (hr : decC.R F w A l) :
    Calls Tryd.prog 18 #[.slice A l.length c] w fun e w' => ∃ v, e = .returned v ∧ intC.V (fun b => w.heap.size ≤ b) w' v (holders l) ∧ Below w.heap.size w w' := by
  have HR := Lib.hid hr; clear hr
  have hne := partsJ_ne l ⟨0, 0, false⟩ [] [] (by simp)
  have hlen := partsJ_length l ⟨0, 0, false⟩ [] []
  have hpc := parts_calls w A c l hl F HR.out
  unfold holders
  generalize partsJ ⟨0, 0, false⟩ [] [] l = R at hne hlen hpc ⊢
  obtain ⟨p, rest, rfl⟩ : ∃ p rest, R = p :: rest := by
    cases R with
    | nil => exact absurd rfl hne.1
    | cons p rest => exact ⟨p, rest, rfl⟩
  simp only [List.tail_cons, List.length_cons, List.length_nil] at hne hlen ⊢
  have HNE := Lib.hid hne.2; clear hne
  have HPC := Lib.hid hpc; clear hpc
  go_enter Tryd.func18, Tryd.ntmps18
  go_wp2_with (go_at_call 17; refine HPC.out.mono ?_; rintro e w' ⟨v, rfl, ⟨B, n, rfl, hn, _, hV⟩, hb⟩; have HV := Lib.hid hV; clear hV; obtain ⟨b, o, _, _, rfl, hF0, hbl, _⟩ := HV.out.sliceAt 0 (by simp))
  case inl =>
    subst h
    obtain rfl : rest = [] := by cases rest with | nil => rfl | cons x y => simp at hn
    go_loopw [3, 10] (fun v i wr => v = .slice none 0 0 ∧ i = .int .i64 0 ∧ wr = w') (fun _ _ _ => 0)
    case atStart => exact ⟨rfl, rfl, rfl⟩
    case round =>
      obtain ⟨rfl, rfl, rfl⟩ := hrel
      go_wp2
      go_ret
      exact ⟨_, rfl, Cod.V.nil _ _ _, hb⟩
  case inr =>
    have HB := Lib.hid hb; clear hb
    go_loopw [3, 10] (fun v i wr => ∃ k : Nat, k ≤ rest.length ∧ i = .int .i64 k ∧ Hid (intC.O (fun _ => False) w'.heap.size 3 wr v ((rest.take k).map whoOf)) ∧ Hid (Below w'.heap.size w' wr)) (fun _ i _ => rest.length - (intOf i).toNat)
    case atStart => exact ⟨0, Nat.zero_le _, rfl, Cod.O.nil _ _ _ _ _, Below.refl _ _⟩
    case round =>
      obtain ⟨k, hk, rfl, HO, HB2⟩ := hrel
      by_cases hlt : k < rest.length
      · obtain ⟨b', o', A2, n2, e1, hF1, hbl1, hc, hn2, hV2⟩ := HV.out.sliceAt (k + 1) (by simp; omega)
        injection e1 with e1
        injection e1 with e1 e2
        subst e1 e2
        simp only [List.getElem_cons_succ] at hc hn2 hV2
        have hq : rest[k] ≠ [] := HNE.out _ (List.getElem_mem hlt)
        have htk := Lib.hid (List.take_succ_eq_append_getElem hlt)
        obtain ⟨q, hqq⟩ : ∃ q, q = rest[k] := ⟨_, rfl⟩
        rw [← hqq] at hc hn2 hV2 hq htk
        clear hqq
        obtain ⟨⟨a0, a1, a2, a3⟩, ds, rfl⟩ : ∃ d ds, q = d :: ds := by
          cases q with
          | nil => exact absurd rfl hq
          | cons d ds => exact ⟨d, ds, rfl⟩
        obtain ⟨b2, o2, rfl, hbl2, _, h1, _, _⟩ := hV2.dec 0 (by simp)
        have hk : Keeps (fun b => b < w'.heap.size) w' wr := Keeps.of_below HB2.out fun k hk _ => hk
        have g1 : wr.cell? ⟨b, o + 1 + k, none⟩ = some (.slice (some ⟨b2, o2, none⟩) (ds.length + 1) n2) := by
          rw [show o + 1 + k = o + (k + 1) from by omega]
          exact (hk.cell (p := ⟨b, _, none⟩) hbl hbl).trans hc
        have g2 : wr.cell? ⟨b2, o2 + 1, none⟩ = some (.int .i64 a1) := (hk.cell (p := ⟨b2, _, none⟩) hbl2 hbl2).trans (by simpa using h1)
        have hsz : w'.heap.size ≤ wr.heap.size := hk.1
        clear hk hc h1 hV2 hn2
        go_wp2_with (at_builtin; refine wp_append1 intC (fun _ => False) w'.heap.size rfl (.tmp 14) (.tmp 19) 30 (.int .i64 0) 8 rfl Tryd.underlying30 info3 rfl (by decide) (by decide) u3 ((rest.take k).map whoOf) a1 rfl rfl HO.out rfl (by simp [Value.oneCell']) hsz (fun b hb => hb.elim) (by simp; omega) ?_)
        intro v1 w1 ho1 hg1 hat1
        have HO1 := Lib.hid ho1
        have HB3 := Lib.hid (HB2.out.grown hg1 hsz fun k hk => (HO.out.lt k hk).1)
        clear ho1 hg1 hat1
        go_wp2
        refine ⟨⟨k + 1, by omega, by go_num, ?_, HB3⟩, by simp [intOf]; omega⟩
        rw [htk.out]
        have hf := HO1.out
        show intC.O _ _ _ _ _ _
        simpa [whoOf] using hf
      · go_wp2
        go_ret
        refine ⟨_, rfl, ?_, HB.out.trans (HB2.out.mono HB.out.size)⟩
        have := HO.out.toV
        rw [List.take_of_length_le (by omega)] at this
        exact this.mono fun b hb h => by
          rcases h with h | h
          · exact h.elim
          · have := (HO.out.lt b h).1
            have := HB.out.size
            omega
end Go.Proofs.YtmokcebpgfhddaaDoor
