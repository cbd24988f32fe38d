/- Plain law: the document's parts and holders of a trace are the program's; what is counted. -/
import Derived.Test.YtmokcebpgfhddaaDoorHolders
namespace Go.Proofs.YtmokcebpgfhddaaDoor
open Go.RowKit

theorem runJ_more (j : Jd) (d : Dec) (l : List Dec) : runJ j (d :: l) = if (j.fine d).1 = true then ((runJ (j.fine d).2 l).1 + 1, (runJ (j.fine d).2 l).2) else (0, j) := by rw [runJ]
def refP : List (List Dec) → List Dec → List Dec → List (List Dec)
  | o, p, [] => o ++ [p]
  | o, p, d :: l => if d.kind = 5 ∧ d.epoch = (o.length : Int) + 1 then refP (o ++ [p]) [d] l else refP o (p ++ [d]) l
def refH : List Int → List Dec → List Int
  | o, [] => o
  | o, d :: l => if d.kind = 5 ∧ d.epoch = (o.length : Int) + 1 then refH (o ++ [d.who]) l else refH o l
theorem fine_epoch (j : Jd) (d : Dec) (n : Nat) (hn : n < 4611686018427387904) (hj : j.e = n) (h : (j.fine d).1 = true) :
    (d.kind = 5 ∧ d.epoch = (n : Int) + 1 → (j.fine d).2.e = (n : Int) + 1) ∧ (¬ (d.kind = 5 ∧ d.epoch = (n : Int) + 1) → (j.fine d).2.e = n) := by
  have hw : wrap64 (j.e + 1) = (n : Int) + 1 := by rw [hj]; simp [wrap64]; omega
  unfold Jd.fine at h ⊢
  by_cases h5 : d.kind = 5
  · simp only [h5] at h ⊢
    by_cases hp : d.pos = 0
    · simp only [hp] at h ⊢
      simp only [beq_self_eq_true, Bool.and_self, if_true] at h ⊢
      unfold Jd.grant at h ⊢
      rw [hw] at h ⊢
      by_cases hwho : d.who ≤ 0
      · simp [hwho] at h
      · simp only [hwho, if_false] at h ⊢
        by_cases he : d.epoch = (n : Int) + 1
        · simp [he]
        · simp [he, hj]
    · simp [hp] at h
  · refine ⟨fun hh => absurd hh.1 h5, fun _ => ?_⟩
    simp only [beq_eq_false_iff_ne.2 h5, Bool.false_and, Bool.false_eq_true, if_false]
    repeat' split
    all_goals exact hj
theorem refP_eq : ∀ (l : List Dec) (j : Jd) (part : List Dec) (out : List (List Dec)), j.e = out.length → out.length + l.length < 4611686018427387904 → refP out part (l.take (runJ j l).1) = partsJ j part out l
  | [], j, part, out, _, _ => by simp [refP, partsJ]
  | d :: l, j, part, out, hj, hl => by
    unfold partsJ runJ
    split
    · rename_i hf
      have hE := fine_epoch j d out.length (by simp at hl; omega) hj hf
      simp only [List.take_succ_cons]
      unfold refP
      by_cases hc : d.kind = 5 ∧ d.epoch = (out.length : Int) + 1
      · have he := hE.1 hc
        rw [if_pos hc, if_pos (by rw [he, hj]; omega)]
        exact refP_eq l _ _ _ (by rw [he]; simp) (by simp at hl ⊢; omega)
      · have he := hE.2 hc
        rw [if_neg hc, if_neg (by rw [he, hj]; omega)]
        exact refP_eq l _ _ _ he (by simp at hl ⊢; omega)
    · simp [refP]
theorem whoOf_append (p : List Dec) (d : Dec) (h : p ≠ []) : whoOf (p ++ [d]) = whoOf p := by
  cases p with
  | nil => exact absurd rfl h
  | cons a t => rfl
theorem refH_eq : ∀ (l : List Dec) (o : List (List Dec)) (p : List Dec), (o ≠ [] → p ≠ []) → refH ((o ++ [p]).tail.map whoOf) l = (refP o p l).tail.map whoOf
  | [], o, p, _ => rfl
  | d :: l, o, p, h => by
    have hlen : ((o ++ [p]).tail.map whoOf).length = o.length := by simp
    unfold refH refP
    rw [hlen]
    split
    · rw [← refH_eq l (o ++ [p]) [d] (fun _ => by simp)]
      congr 1
      rw [List.tail_append_of_ne_nil (by simp : o ++ [p] ≠ [])]
      simp [whoOf]
    · rw [← refH_eq l o (p ++ [d]) (fun _ => by simp)]
      congr 1
      cases o with
      | nil => rfl
      | cons a t => simp [whoOf_append p d (h (by simp))]
theorem refH_holders (l : List Dec) (hl : l.length < 4611686018427387904) : refH [] (l.take (runJ ⟨0, 0, false⟩ l).1) = holders l := by
  have := refH_eq (l.take (runJ ⟨0, 0, false⟩ l).1) [] [] (fun h => absurd rfl h)
  rw [refP_eq l ⟨0, 0, false⟩ [] [] rfl (by simpa using hl)] at this
  exact this
theorem refP_parts (l : List Dec) (hl : l.length < 4611686018427387904) : refP [] [] (l.take (runJ ⟨0, 0, false⟩ l).1) = partsJ ⟨0, 0, false⟩ [] [] l :=
  refP_eq l ⟨0, 0, false⟩ [] [] rfl (by simpa using hl)

/-- How many there are of a kind. -/
def many (l : List Dec) (k : Int) : Nat := (l.filter fun d => d.kind == k).length
theorem many_snoc (l : List Dec) (d : Dec) (k : Int) : many (l ++ [d]) k = many l k + if d.kind = k then 1 else 0 := by
  unfold many
  by_cases h : d.kind = k
  · simp [List.filter_append, h]
  · simp [List.filter_append, h]
theorem many_le (l : List Dec) (k : Int) : many l k ≤ l.length := List.length_filter_le _ _
/-- How many were met. -/
def met (l : List Dec) (left : Int → Bool) : Nat := (l.filter fun d => !left d.kind).length
theorem met_le (l : List Dec) (left : Int → Bool) : met l left ≤ l.length := List.length_filter_le _ _
theorem met_step (l : List Dec) (left left' : Int → Bool) (x : Int) (hx : left x = true) (h' : ∀ k, left' k = (left k && !(k == x))) : met l left' = met l left + many l x := by
  induction l with
  | nil => rfl
  | cons d l ih =>
    unfold met many at ih ⊢
    simp only [List.filter_cons, h'] at ih ⊢
    by_cases hd : d.kind = x
    · subst hd
      simp [hx]
      simp at ih
      omega
    · have : (d.kind == x) = false := by simp [hd]
      simp only [this, Bool.not_false, Bool.and_true]
      split <;> simp <;> simp at ih <;> omega
theorem met_all (l : List Dec) (left : Int → Bool) (h : ∀ k, left k = false) : met l left = l.length := by
  unfold met
  rw [List.filter_eq_self.2 (fun d _ => by simp [h])]
theorem met_none (l : List Dec) (left : Int → Bool) (h : ∀ d ∈ l, left d.kind = true) : met l left = 0 := by
  unfold met
  rw [List.filter_eq_nil_iff.2 (fun d hd => by simp [h d hd])]
  rfl
theorem many_pos (l : List Dec) (d : Dec) (h : d ∈ l) : 0 < many l d.kind := by
  unfold many
  exact List.length_pos_of_mem (List.mem_filter.2 ⟨h, by simp⟩)
end Go.Proofs.YtmokcebpgfhddaaDoor
