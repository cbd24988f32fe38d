/- Words for the walks of this seat: what a call keeps (Keeps), how lists lie in memory (Cod), a row of the call's own (Cod.O), append. -/
import Derived.Test.YtmokcebpgfhddaaDoorBase
import Derived.LoopTactic
import Derived.Deep.LoopGhost
import Derived.Maps.AppendAt
import Derived.Deep.AppendLies
namespace Go.Proofs.YtmokcebpgfhddaaDoor
open Go.RowKit

theorem _root_.Go.RowKit.Below.upd {B : Nat} {a w1 w2 : World} {S : Nat → Prop} (h : Below B a w1) (hu : Upd S w1 w2) (hs : ∀ k, S k → B ≤ k) (hB : B ≤ w1.heap.size) : Below B a w2 :=
  h.trans ⟨hu.os, hu.tape, hu.output, hu.size, fun k hk => hu.block k (by omega) (fun x => by have := hs k x; omega)⟩

/-- The blocks of F stand as they stood. -/
def Keeps (F : Nat → Prop) (w w' : World) : Prop := w.heap.size ≤ w'.heap.size ∧ ∀ b, F b → b < w.heap.size → w'.heap[b]? = w.heap[b]?
theorem Keeps.refl (F : Nat → Prop) (w : World) : Keeps F w w := ⟨Nat.le_refl _, fun _ _ _ => rfl⟩
theorem Keeps.trans {F : Nat → Prop} {a b c : World} (h : Keeps F a b) (k : Keeps F b c) : Keeps F a c :=
  ⟨Nat.le_trans h.1 k.1, fun i hi hl => (k.2 i hi (Nat.lt_of_lt_of_le hl h.1)).trans (h.2 i hi hl)⟩
theorem Keeps.mono {F G : Nat → Prop} {a b : World} (h : Keeps F a b) (hs : ∀ k, k < a.heap.size → G k → F k) : Keeps G a b := ⟨h.1, fun i hi hl => h.2 i (hs i hl hi) hl⟩
theorem Keeps.drew {F : Nat → Prop} {a b : World} (h : Keeps F a b) : Keeps F a b.drew := h
theorem Keeps.drewN {F : Nat → Prop} {a b : World} (h : Keeps F a b) (n : Nat) : Keeps F a (b.drewN n) := h
theorem Keeps.alloc {F : Nat → Prop} {a b : World} (h : Keeps F a b) (o : Obj) : Keeps F a (b.alloc o) :=
  h.trans ⟨by simp, fun i _ hl => heap_alloc_lt b o i hl⟩
theorem Keeps.setCell {F : Nat → Prop} {a b : World} (h : Keeps F a b) (p : Addr) (u : Value) (hp : ¬ F p.block ∨ a.heap.size ≤ p.block) : Keeps F a (b.setCell p u) :=
  ⟨by have := h.1; simp; omega, fun i hi hl => by rw [Below.heap_setCell _ _ _ _ (by intro e; subst e; rcases hp with hp | hp; exact hp hi; omega)]; exact h.2 i hi hl⟩
theorem Keeps.of_upd {F S : Nat → Prop} {a b : World} (h : Upd S a b) (hs : ∀ k, F k → ¬ S k) : Keeps F a b := ⟨h.size, fun i hi hl => h.block i hl (hs i hi)⟩
theorem Keeps.of_below {F : Nat → Prop} {B : Nat} {a b : World} (h : Below B a b) (hs : ∀ k, F k → k < a.heap.size → k < B) : Keeps F a b := ⟨h.size, fun i hi hl => h.block i (hs i hi hl)⟩
theorem Keeps.of_grown {F : Nat → Prop} {row : Option Nat} {a b : World} (h : a.grownBy b row) (hs : ∀ k, F k → row ≠ some k) : Keeps F a b := ⟨h.size, fun i hi hl => h.block i hl (fun e => hs i hi e.symm)⟩
theorem Keeps.cell {F : Nat → Prop} {a b : World} (h : Keeps F a b) {p : Addr} (hp : p.block < a.heap.size) (hf : F p.block) : b.cell? p = a.cell? p := World.cell?_of_block (w := a) (h.2 p.block hf hp)
theorem Keeps.blk {F : Nat → Prop} {a b : World} {g : Nat} {cs : Array Value} {t : TypeId} (h : Keeps F a b) (hb : Blk a g cs t) (hf : F g) : Blk b g cs t := (h.2 g hf hb.lt).trans hb

/-- How things of α lie in memory: so many cells each; what the cells are; what of it stays while the blocks of F stay. -/
structure Cod (α : Type) where
  sz : Nat
  K : (Nat → Prop) → World → α → Array Value → Prop
  size : ∀ {F w x cs}, K F w x cs → cs.size = sz
  keep : ∀ {F w w' x cs}, Keeps F w w' → K F w x cs → K F w' x cs
  mono : ∀ {F G w x cs}, (∀ b, b < w.heap.size → F b → G b) → K F w x cs → K G w x cs

/-- Elements from A on read as xs; the blocks that are read are F's. -/
def Cod.R {α : Type} (c : Cod α) (F : Nat → Prop) (w : World) (A : Option Addr) (xs : List α) : Prop :=
  ∀ i (h : i < xs.length), ∃ b o cs, A = some ⟨b, o, none⟩ ∧ F b ∧ b < w.heap.size ∧ c.K F w xs[i] cs ∧ ∀ j, j < c.sz → w.cell? ⟨b, o + i * c.sz + j, none⟩ = cs[j]?
theorem Cod.R.keep {α : Type} {c : Cod α} {F : Nat → Prop} {w w' : World} {A : Option Addr} {xs : List α} (h : c.R F w A xs) (hk : Keeps F w w') : c.R F w' A xs := fun i hi => by
  obtain ⟨b, o, cs, e, hf, hl, hK, hc⟩ := h i hi
  exact ⟨b, o, cs, e, hf, Nat.lt_of_lt_of_le hl hk.1, c.keep hk hK, fun j hj => (hk.cell (p := ⟨b, _, none⟩) hl hf).trans (hc j hj)⟩
theorem Cod.R.mono {α : Type} {c : Cod α} {F G : Nat → Prop} {w : World} {A : Option Addr} {xs : List α} (h : c.R F w A xs) (hg : ∀ b, b < w.heap.size → F b → G b) : c.R G w A xs := fun i hi => by
  obtain ⟨b, o, cs, e, hf, hl, hK, hc⟩ := h i hi
  exact ⟨b, o, cs, e, hg b hl hf, hl, c.mono hg hK, hc⟩
/-- The slice v reads as xs. -/
def Cod.V {α : Type} (c : Cod α) (F : Nat → Prop) (w : World) (v : Value) (xs : List α) : Prop := ∃ A n, v = .slice A xs.length n ∧ xs.length ≤ n ∧ (A = none → n = 0) ∧ c.R F w A xs
theorem Cod.V.keep {α : Type} {c : Cod α} {F : Nat → Prop} {w w' : World} {v : Value} {xs : List α} (h : c.V F w v xs) (hk : Keeps F w w') : c.V F w' v xs := by
  obtain ⟨A, n, e, hn, h0, hr⟩ := h
  exact ⟨A, n, e, hn, h0, hr.keep hk⟩
theorem Cod.V.mono {α : Type} {c : Cod α} {F G : Nat → Prop} {w : World} {v : Value} {xs : List α} (h : c.V F w v xs) (hg : ∀ b, b < w.heap.size → F b → G b) : c.V G w v xs := by
  obtain ⟨A, n, e, hn, h0, hr⟩ := h
  exact ⟨A, n, e, hn, h0, hr.mono hg⟩
theorem Cod.V.nil {α : Type} (c : Cod α) (F : Nat → Prop) (w : World) : c.V F w (.slice none 0 0) [] := ⟨none, 0, rfl, Nat.le_refl _, fun _ => rfl, fun i hi => absurd hi (by simp)⟩

/-- Things whose cells say all of them. -/
def Cod.flat {α : Type} (sz : Nat) (enc : α → Array Value) (hs : ∀ x, (enc x).size = sz) : Cod α where
  sz := sz
  K := fun _ _ x cs => cs = enc x
  size := fun h => by rw [h]; exact hs _
  keep := fun _ h => h
  mono := fun _ h => h
/-- Slices as elements. -/
def Cod.slice {α : Type} (c : Cod α) : Cod (List α) where
  sz := 1
  K := fun F w xs cs => ∃ v, cs = #[v] ∧ c.V F w v xs
  size := fun ⟨_, h, _⟩ => by rw [h]; rfl
  keep := fun hk ⟨v, e, h⟩ => ⟨v, e, h.keep hk⟩
  mono := fun hg ⟨v, e, h⟩ => ⟨v, e, h.mono hg⟩

/-- A row of the call's own, from block B on, of the element type e, that reads as xs; what its elements lead to are F's blocks. -/
def Cod.O {α : Type} (c : Cod α) (F : Nat → Prop) (B : Nat) (e : TypeId) (w : World) (v : Value) (xs : List α) : Prop :=
  ∃ css : List (Array Value), css.length = xs.length ∧ (∀ i (h : i < xs.length) (h' : i < css.length), c.K F w xs[i] css[i]) ∧ w.ownsRow B e c.sz v xs.length (css.flatMap Array.toList)
theorem Cod.O.nil {α : Type} (c : Cod α) (F : Nat → Prop) (B : Nat) (e : TypeId) (w : World) : c.O F B e w (.slice none 0 0) [] := ⟨[], rfl, fun i h => absurd h (by simp), by simp [World.ownsRow]⟩
theorem Cod.O.keep {α : Type} {c : Cod α} {F : Nat → Prop} {B : Nat} {e : TypeId} {w w' : World} {v : Value} {xs : List α} (h : c.O F B e w v xs) (hk : Keeps (fun b => F b ∨ v.ownBlock = some b) w w') : c.O F B e w' v xs := by
  obtain ⟨css, hl, hK, h1, h2⟩ := h
  refine ⟨css, hl, fun i h h' => c.keep (hk.mono fun k _ hf => .inl hf) (hK i h h'), h1, ?_⟩
  rcases h2 with h2 | ⟨g, cap, cur, rfl, hb, hg, r⟩
  · exact .inl h2
  · exact .inr ⟨g, cap, cur, rfl, hb, (hk.2 g (.inr rfl) (Array.getElem?_eq_some_iff.1 hg).1).trans hg, r⟩
theorem Cod.O.mono {α : Type} {c : Cod α} {F G : Nat → Prop} {B : Nat} {e : TypeId} {w : World} {v : Value} {xs : List α} (h : c.O F B e w v xs) (hg : ∀ b, b < w.heap.size → F b → G b) : c.O G B e w v xs := by
  obtain ⟨css, hl, hK, h1⟩ := h
  exact ⟨css, hl, fun i h h' => c.mono hg (hK i h h'), h1⟩
theorem Cod.O.lt {α : Type} {c : Cod α} {F : Nat → Prop} {B : Nat} {e : TypeId} {w : World} {v : Value} {xs : List α} (h : c.O F B e w v xs) : ∀ k, v.ownBlock = some k → B ≤ k ∧ k < w.heap.size := by
  obtain ⟨css, _, _, h1⟩ := h
  exact h1.lt
theorem Cod.O.form {α : Type} {c : Cod α} {F : Nat → Prop} {B : Nat} {e : TypeId} {w : World} {v : Value} {xs : List α} (h : c.O F B e w v xs) : ∃ A cap, v = .slice A xs.length cap := by
  obtain ⟨A, n, e, _⟩ : ∃ A n, v = .slice A xs.length n ∧ True := by
    obtain ⟨css, _, _, _, h2⟩ := h
    rcases h2 with ⟨rfl, h2⟩ | ⟨g, cap, cur, rfl, _⟩
    · exact ⟨none, 0, by rw [h2], trivial⟩
    · exact ⟨_, _, rfl, trivial⟩
  exact ⟨A, n, e⟩
theorem flatMap_at (css : List (Array Value)) (sz : Nat) (hs : ∀ c ∈ css, c.size = sz) : ∀ (i j : Nat) (h : i < css.length), j < sz → (css.flatMap Array.toList)[i * sz + j]? = css[i][j]? := by
  induction css with
  | nil => intro i j h; simp at h
  | cons a t ih =>
    intro i j h hj
    have ha : a.size = sz := hs a (by simp)
    rw [List.flatMap_cons]
    cases i with
    | zero =>
      rw [List.getElem?_append_left (by simp; omega)]
      simp
    | succ i =>
      rw [List.getElem?_append_right (by simp [Nat.succ_mul]; omega)]
      have := ih (fun c hc => hs c (by simp [hc])) i j (by simpa using h) hj
      simp only [Array.length_toList, ha, List.getElem_cons_succ]
      rw [← this]
      congr 1
      rw [Nat.succ_mul]
      omega
theorem Cod.O.toV {α : Type} {c : Cod α} {F : Nat → Prop} {B : Nat} {e : TypeId} {w : World} {v : Value} {xs : List α} (h : c.O F B e w v xs) : c.V (fun b => F b ∨ v.ownBlock = some b) w v xs := by
  obtain ⟨css, hl, hK, h1, h2⟩ := h
  rcases h2 with ⟨rfl, h2⟩ | ⟨g, cap, cur, rfl, hb, hg, hn, hm, hsz, hcur⟩
  · obtain rfl : xs = [] := List.eq_nil_of_length_eq_zero h2
    exact Cod.V.nil _ _ _
  · refine ⟨_, cap, rfl, hn, (fun e => by cases e), fun i hi => ⟨g, 0, css[i], rfl, .inr rfl, (Array.getElem?_eq_some_iff.1 hg).1, c.mono (fun b _ hf => .inl hf) (hK i hi (by omega)), fun j hj => ?_⟩⟩
    have hown : w.ownsRow B e c.sz (.slice (some ⟨g, 0, none⟩) xs.length cap) xs.length (css.flatMap Array.toList) := ⟨h1, .inr ⟨g, cap, cur, rfl, hb, hg, hn, hm, hsz, hcur⟩⟩
    have hlt : i * c.sz + j < xs.length * c.sz := by
      have : (i + 1) * c.sz ≤ xs.length * c.sz := Nat.mul_le_mul_right _ hi
      rw [Nat.add_mul] at this
      omega
    have := hown.cellAt (i * c.sz + j) hlt
    rw [Nat.zero_add, this]
    exact flatMap_at css c.sz (fun a ha => by
      obtain ⟨k, hk, rfl⟩ := List.getElem_of_mem ha
      exact c.size (hK k (by omega) hk)) i j (by omega) hj
theorem Cod.O.frame {α : Type} {c : Cod α} {F : Nat → Prop} {B : Nat} {e : TypeId} {w w' : World} {v : Value} {xs : List α} (h : c.O F B e w v xs) (hk : Keeps F w w') (hb : ∀ k, v.ownBlock = some k → w'.heap[k]? = w.heap[k]?) : c.O F B e w' v xs :=
  h.keep ⟨hk.1, fun b hf hl => by rcases hf with hf | hf; exact hk.2 b hf hl; exact hb b hf⟩

section
variable {P : Program} {ops : Array Oper} {rest : List Oper} {o : Oper} {a : Act} {Q : Exit → Act → World → Prop}
/-- append(v, y): behind 'at_builtin'; the goal's world is 'W.alloc' of the variadic's box. -/
theorem wp_append1 {α : Type} (c : Cod α) (F : Nat → Prop) (B : Nat) {W : World} {e : TypeId} {cs : Array Value} (hgd : o.guard = none) (s x : Operand) (t : TypeId) (z : Value) (bytes : Nat)
    (ho : o.op = .call { callee := .builtin .append, args := #[s, x], argTypes := #[t, t] })
    (ht : P.underlying t = some (.slice e)) (hinfo : (P.info? e).map (fun i => (i.zero, i.size, i.bytes)) = some (some z, c.sz, bytes)) (hzs : z.cells.size = c.sz) (hsz : 0 < c.sz) (hb0 : 0 < bytes)
    (v : Value) (xs : List α) (y : α) (hs : a.eval s = v) (hx : a.eval x = .slice (some ⟨W.heap.size, 0, none⟩) 1 1)
    (hO : c.O F B e W v xs) (hK : c.K F W y cs) (h1 : ∀ u ∈ cs.toList, u.oneCell' = true) (hB : B ≤ W.heap.size) (hF : ∀ b, F b → b < W.heap.size ∧ v.ownBlock ≠ some b) (hl : (xs.length + 1) * bytes ≤ 140737488355328)
    (h : ∀ v1 w1, c.O F B e w1 v1 (xs ++ [y]) → W.grownBy w1 v.ownBlock → (v1.ownBlock = v.ownBlock ∨ ∃ b, v1.ownBlock = some b ∧ W.heap.size ≤ b) → wpList P ops Q rest (a.put o.dst v1) w1) :
    wpList P ops Q (o :: rest) a (W.alloc (.cells cs e)) := by
  obtain ⟨i0, hi, hzz⟩ := Option.map_eq_some_iff.1 hinfo
  simp only [Prod.mk.injEq] at hzz
  obtain ⟨hz0, hz1, hz2⟩ := hzz
  have hlen : xs.length + 1 ≤ 140737488355328 := Nat.le_trans (Nat.le_mul_of_pos_right _ hb0) hl
  obtain ⟨css, hcl, hcK, hown⟩ := hO
  have hcs : cs.size = c.sz := c.size hK
  refine wpList_append_own_at (W.alloc (.cells cs e)) hgd s x t ho B e i0 z c.sz bytes ht hi hz0 hz1 hz2 hzs hsz v xs.length (css.flatMap Array.toList) hs (hown.alloc _) ⟨W.heap.size, 0, none⟩ 1 1 cs.toList hx (by simp [hcs])
    (World.news_of_block (cs := cs) (t := e) (fr := (0, 0)) (heap_alloc_at W _)) h1 (by simp only [maxLen]; omega) hl (by simp; omega) ?_
  intro v1 w1 hown1 hg _ hat
  have hgr : W.grownBy w1 v.ownBlock := World.grownBy.trans (World.grownBy_alloc W _ _) hg
  have hk : Keeps F W w1 := Keeps.of_grown hgr (fun k hk => (hF k hk).2)
  refine h v1 w1 ⟨css ++ [cs], by simp [hcl], fun i h h' => ?_, by simpa using hown1⟩ hgr ?_
  · by_cases hi : i < xs.length
    · rw [List.getElem_append_left hi, List.getElem_append_left (by omega)]
      exact c.keep hk (hcK i hi (by omega))
    · have : i = xs.length := by simp at h; omega
      subst this
      simp only [List.getElem_append_right (Nat.le_refl _), Nat.sub_self]
      rw [List.getElem_append_right (by omega)]
      simp only [hcl, Nat.sub_self, List.getElem_cons_zero]
      exact c.keep hk hK
  · rcases hat with hat | hat
    · exact .inl hat
    · exact .inr ⟨_, hat, by simp⟩
end

def decC : Cod Dec := Cod.flat 4 Dec.cells fun _ => rfl
theorem Cod.R.dec {F : Nat → Prop} {w : World} {A : Option Addr} {l : List Dec} (h : decC.R F w A l) (i : Nat) (hi : i < l.length) : ∃ b o, A = some ⟨b, o, none⟩ ∧ b < w.heap.size ∧
    w.cell? ⟨b, o + i * 4, none⟩ = some (.int .i64 l[i].kind) ∧ w.cell? ⟨b, o + i * 4 + 1, none⟩ = some (.int .i64 l[i].who) ∧ w.cell? ⟨b, o + i * 4 + 2, none⟩ = some (.int .i64 l[i].epoch) ∧ w.cell? ⟨b, o + i * 4 + 3, none⟩ = some (.int .i64 l[i].pos) := by
  obtain ⟨b, o, cs, e, _, hl, hK, hc⟩ := h i hi
  obtain rfl : cs = Dec.cells l[i] := hK
  exact ⟨b, o, e, hl, hc 0 (by decide), hc 1 (by decide), hc 2 (by decide), hc 3 (by decide)⟩
end Go.Proofs.YtmokcebpgfhddaaDoor
