/- More words: append of one element where the box's place is a number at hand; how far a list is read; draws. -/
import Derived.Test.YtmokcebpgfhddaaDoorWords
namespace Go.Proofs.YtmokcebpgfhddaaDoor
open Go.RowKit
section
variable {P : Program} {ops : Array Oper} {rest : List Oper} {o : Oper} {a : Act} {Q : Exit → Act → World → Prop}
theorem wp_append1H {α : Type} (c : Cod α) (F : Nat → Prop) (B : Nat) {W : World} {e : TypeId} {cs : Array Value} (hgd : o.guard = none) (s x : Operand) (t : TypeId) (z : Value) (bytes : Nat)
    (ho : o.op = .call { callee := .builtin .append, args := #[s, x], argTypes := #[t, t] })
    (ht : P.underlying t = some (.slice e)) (hinfo : (P.info? e).map (fun i => (i.zero, i.size, i.bytes)) = some (some z, c.sz, bytes)) (hzs : z.cells.size = c.sz) (hsz : 0 < c.sz) (hb0 : 0 < bytes)
    (v : Value) (xs : List α) (y : α) (H : Nat) (hH : W.heap.size = H) (hs : a.eval s = v) (hx : a.eval x = .slice (some ⟨H, 0, none⟩) 1 1)
    (hO : c.O F B e W v xs) (hK : c.K F W y cs) (h1 : ∀ u ∈ cs.toList, u.oneCell' = true) (hB : B ≤ H) (hF : ∀ b, F b → b < H ∧ v.ownBlock ≠ some b) (hl : (xs.length + 1) * bytes ≤ 140737488355328)
    (h : ∀ v1 w1, c.O F B e w1 v1 (xs ++ [y]) → W.grownBy w1 v.ownBlock → (v1.ownBlock = v.ownBlock ∨ ∃ b, v1.ownBlock = some b ∧ H ≤ b) → wpList P ops Q rest (a.put o.dst v1) w1) :
    wpList P ops Q (o :: rest) a (W.alloc (.cells cs e)) := by
  subst hH
  exact wp_append1 c F B hgd s x t z bytes ho ht hinfo hzs hsz hb0 v xs y hs hx hO hK h1 hB hF hl h
end
theorem Cod.R.takeN {α : Type} {c : Cod α} {F : Nat → Prop} {w : World} {A : Option Addr} {xs : List α} (h : c.R F w A xs) (m : Nat) : c.R F w A (xs.take m) := fun i hi => by
  obtain ⟨b, o, cs, e, hf, hl, hK, hc⟩ := h i (by simp at hi; omega)
  exact ⟨b, o, cs, e, hf, hl, by simpa using hK, hc⟩
end Go.Proofs.YtmokcebpgfhddaaDoor
