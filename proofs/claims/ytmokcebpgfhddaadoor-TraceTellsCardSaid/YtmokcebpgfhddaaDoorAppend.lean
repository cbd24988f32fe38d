/- append(v, ys...) where v is the call's own. -/
import Derived.Test.YtmokcebpgfhddaaDoorHolders
import Derived.Laws.AppendOwnNone
namespace Go.Proofs.YtmokcebpgfhddaaDoor
open Go.RowKit

theorem decC_one {F : Nat → Prop} {w : World} {x : Dec} {cs : Array Value} (h : decC.K F w x cs) : ∀ u ∈ cs.toList, u.oneCell' = true := by
  obtain rfl : cs = Dec.cells x := h
  simp [Dec.cells, Value.oneCell']
theorem intC_one {F : Nat → Prop} {w : World} {x : Int} {cs : Array Value} (h : intC.K F w x cs) : ∀ u ∈ cs.toList, u.oneCell' = true := by
  obtain rfl : cs = intA x := h
  simp [intA, Value.oneCell']

theorem Cod.R.css {α : Type} {c : Cod α} {F : Nat → Prop} {w : World} {A : Option Addr} {xs : List α} (h : c.R F w A xs) : ∃ css : List (Array Value), css.length = xs.length ∧ ∀ i (h1 : i < xs.length) (h2 : i < css.length), c.K F w xs[i] css[i] ∧ ∃ b o, A = some ⟨b, o, none⟩ ∧ F b ∧ b < w.heap.size ∧ ∀ j, j < c.sz → w.cell? ⟨b, o + i * c.sz + j, none⟩ = css[i][j]? := by
  have hc : ∀ i : Fin xs.length, ∃ cs, c.K F w xs[i.1] cs ∧ ∃ b o, A = some ⟨b, o, none⟩ ∧ F b ∧ b < w.heap.size ∧ ∀ j, j < c.sz → w.cell? ⟨b, o + i.1 * c.sz + j, none⟩ = cs[j]? := fun i => by
    obtain ⟨b, o, cs, e, hf, hl, hK, hcell⟩ := h i.1 i.2
    exact ⟨cs, hK, b, o, e, hf, hl, hcell⟩
  refine ⟨List.ofFn fun i => Classical.choose (hc i), by simp, fun i h1 h2 => ?_⟩
  have := Classical.choose_spec (hc ⟨i, h1⟩)
  simpa using this

section
variable {P : Program} {ops : Array Oper} {rest : List Oper} {o : Oper} {a : Act} {Q : Exit → Act → World → Prop}
/-- append(v, ys...): behind 'at_builtin'. -/
theorem wp_appendS {α : Type} (c : Cod α) (F : Nat → Prop) (B : Nat) {W : World} (e : TypeId) (hgd : o.guard = none) (s x : Operand) (t : TypeId) (z : Value) (bytes : Nat)
    (ho : o.op = .call { callee := .builtin .append, args := #[s, x], argTypes := #[t, t] })
    (ht : P.underlying t = some (.slice e)) (hinfo : (P.info? e).map (fun i => (i.zero, i.size, i.bytes)) = some (some z, c.sz, bytes)) (hzs : z.cells.size = c.sz) (hsz : 0 < c.sz) (hb0 : 0 < bytes)
    (v : Value) (xs : List α) (vy : Value) (ys : List α) (hs : a.eval s = v) (hx : a.eval x = vy)
    (hO : c.O F B e W v xs) (hV : c.V F W vy ys) (hone : ∀ {x : α} {cs : Array Value}, c.K F W x cs → ∀ u ∈ cs.toList, u.oneCell' = true) (hB : B ≤ W.heap.size) (hF : ∀ b, F b → v.ownBlock ≠ some b) (hl : (xs.length + ys.length) * bytes ≤ 140737488355328)
    (h : ∀ v1 w1, c.O F B e w1 v1 (xs ++ ys) → W.grownBy w1 v.ownBlock → (v1.ownBlock = v.ownBlock ∨ ∃ b, v1.ownBlock = some b ∧ W.heap.size ≤ b) → wpList P ops Q rest (a.put o.dst v1) w1) :
    wpList P ops Q (o :: rest) a W := by
  obtain ⟨i0, hi, hzz⟩ := Option.map_eq_some_iff.1 hinfo
  simp only [Prod.mk.injEq] at hzz
  obtain ⟨hz0, hz1, hz2⟩ := hzz
  have hlen : xs.length + ys.length ≤ 140737488355328 := Nat.le_trans (Nat.le_mul_of_pos_right _ hb0) hl
  obtain ⟨A, n, rfl, hn, hA0, hR⟩ := hV
  obtain ⟨css, hcl, hcK, hown⟩ := hO
  by_cases hA : A = none
  · subst hA
    obtain rfl : ys = [] := by
      cases ys with
      | nil => rfl
      | cons y t => obtain ⟨b, o, cs, e, _⟩ := hR 0 (by simp); cases e
    obtain rfl := hA0 rfl
    refine wpList_append_own_none hgd s x t ho B e i0 c.sz ht hi v xs.length (css.flatMap Array.toList) hs hown hx ?_
    exact h v W ⟨css, by simpa using hcl, fun i h h' => by simpa using hcK i (by simpa using h) h', by simpa using hown⟩ ⟨rfl, rfl, rfl, Nat.le_refl _, fun _ _ _ => rfl⟩ (.inl rfl)
  · obtain ⟨ad, rfl⟩ : ∃ ad, A = some ad := by
      cases A with
      | none => exact absurd rfl hA
      | some ad => exact ⟨ad, rfl⟩
    obtain ⟨dss, hdl, hd⟩ := hR.css
    have hsize : ∀ cs ∈ dss, cs.size = c.sz := fun cs hcs => by
      obtain ⟨k, hk, rfl⟩ := List.getElem_of_mem hcs
      exact c.size (hd k (by omega) hk).1
    have hnl : ∀ (dss : List (Array Value)), (∀ cs ∈ dss, cs.size = c.sz) → (dss.flatMap Array.toList).length = dss.length * c.sz := fun dss => by
      induction dss with
      | nil => simp
      | cons a t ih =>
        intro hs
        simp only [List.flatMap_cons, List.length_append, Array.length_toList, List.length_cons]
        rw [ih fun cs hcs => hs cs (by simp [hcs]), hs a (by simp), Nat.succ_mul, Nat.add_comm]
    have hnews : ∀ j u, (dss.flatMap Array.toList)[j]? = some u → W.cell? (ad.add j) = some u := fun j u hu => by
      have hj : j < dss.length * c.sz := by
        have := (List.getElem?_eq_some_iff.1 hu).1
        rwa [hnl dss hsize] at this
      have hi' : j / c.sz < dss.length := (Nat.div_lt_iff_lt_mul hsz).2 hj
      have hr : j % c.sz < c.sz := Nat.mod_lt _ hsz
      obtain ⟨_, b, o, e1, _, _, hcell⟩ := hd (j / c.sz) (by omega) hi'
      injection e1 with e1
      subst e1
      have e2 := flatMap_at dss c.sz hsize (j / c.sz) (j % c.sz) hi' hr
      have e3 : j / c.sz * c.sz + j % c.sz = j := by rw [Nat.mul_comm]; exact Nat.div_add_mod j c.sz
      rw [e3, hu] at e2
      have e4 := hcell (j % c.sz) hr
      rw [Nat.add_assoc, e3, ← e2] at e4
      rw [← e4]
      congr 1
      unfold Addr.add
      split
      · rename_i h0; subst h0; rfl
      · rfl
    refine wpList_append_own_at W hgd s x t ho B e i0 z c.sz bytes ht hi hz0 hz1 hz2 hzs hsz v xs.length (css.flatMap Array.toList) hs hown ad ys.length n (dss.flatMap Array.toList) hx (by rw [hnl dss hsize, hdl])
      hnews (fun u hu => by
        obtain ⟨cs, hcs, huc⟩ := List.mem_flatMap.1 hu
        obtain ⟨k, hk, rfl⟩ := List.getElem_of_mem hcs
        exact hone (hd k (by omega) hk).1 u huc) (by simp only [maxLen]; omega) hl hB ?_
    intro v1 w1 hown1 hg _ hat
    have hk : Keeps F W w1 := Keeps.of_grown hg hF
    refine h v1 w1 ⟨css ++ dss, by simp [hcl, hdl], fun i h h' => ?_, by simpa using hown1⟩ hg ?_
    · by_cases hi : i < xs.length
      · rw [List.getElem_append_left hi, List.getElem_append_left (by omega)]
        exact c.keep hk (hcK i hi (by omega))
      · rw [List.getElem_append_right (by omega), List.getElem_append_right (by omega)]
        simp only [hcl]
        have h2 : i - xs.length < ys.length := by simp at h; omega
        exact c.keep hk (hd (i - xs.length) h2 (by omega)).1
    · rcases hat with hat | hat
      · exact .inl hat
      · exact .inr ⟨_, hat, Nat.le_refl _⟩
end
end Go.Proofs.YtmokcebpgfhddaaDoor
