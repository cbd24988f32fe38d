/- squelchref23.Parts is the program's. -/
import Derived.Test.YtmokcebpgfhddaaDoorTellsC
import Derived.Deep.AppendLies
import Derived.Deep.RegionHeld3
import Derived.Deep.DrawnRows
import Derived.Deep.RegionLaw
import Derived.IntWalk
import Derived.Laws.OwnMore
namespace Go.Proofs.YtmokcebpgfhddaaDoor
open Go.RowKit

/-- The rows so far: their values, the last one the part's own. -/
structure QInv (N : Nat) (w : World) (g cap : Nat) (vp : Value) (part : List Dec) (out : List (List Dec)) (F : Nat → Prop) (vals : List Value) : Prop where
  len : vals.length = out.length
  reads : ∀ i (h : i < out.length) (h' : i < vals.length), decC.V F w vals[i] out[i]
  row : w.ownsRow N 32 1 (.slice (some ⟨g, 0, none⟩) (out.length + 1) cap) (out.length + 1) (vals ++ [vp])
  p : decC.O (fun _ => False) N 23 w vp part
  f1 : ∀ b, F b → N ≤ b ∧ b < w.heap.size
  f2 : ∀ b, F b → vp.ownBlock ≠ some b
  f3 : ¬ F g
  f4 : vp.ownBlock ≠ some g

section
variable {N g cap : Nat} {w : World} {vp : Value} {part : List Dec} {out : List (List Dec)} {F : Nat → Prop} {vals : List Value}
theorem QInv.lt (h : QInv N w g cap vp part out F vals) : N ≤ g ∧ g < w.heap.size := h.row.lt g rfl
theorem QInv.grown {w' : World} (h : QInv N w g cap vp part out F vals) (hg : w.grownBy w' none) : QInv N w' g cap vp part out F vals where
  len := h.len
  reads := fun i a b => (h.reads i a b).keep (Keeps.of_grown hg fun _ _ e => by cases e)
  row := h.row.kept hg (.inr (fun e => by cases e))
  p := h.p.keep (Keeps.of_grown hg fun _ _ e => by cases e)
  f1 := fun b hb => ⟨(h.f1 b hb).1, Nat.lt_of_lt_of_le (h.f1 b hb).2 hg.size⟩
  f2 := h.f2
  f3 := h.f3
  f4 := h.f4
theorem QInv.last (h : QInv N w g cap vp part out F vals) : w.cell? ⟨g, out.length, none⟩ = some vp := by
  rw [h.row.cellAt out.length (by omega), ← h.len]
  simp
theorem QInv.new {w' : World} {g' cap' : Nat} (h : QInv N w g cap vp part out F vals) (hr : w'.ownsRow N 32 1 (.slice (some ⟨g', 0, none⟩) (out.length + 1 + 1) cap') (out.length + 1 + 1) (vals ++ [vp] ++ [.slice none 0 0]))
    (hg : w.grownBy w' (some g)) (hat : g = g' ∨ w.heap.size ≤ g') : QInv N w' g' cap' (.slice none 0 0) [] (out ++ [part]) (fun b => F b ∨ vp.ownBlock = some b) (vals ++ [vp]) where
  len := by simp [h.len]
  reads := fun i a b => by
    have hk : Keeps (fun b => F b ∨ vp.ownBlock = some b) w w' := Keeps.of_grown hg fun k hk e => by
      injection e with e; subst e
      rcases hk with hk | hk
      · exact h.f3 hk
      · exact h.f4 hk
    by_cases hi : i < out.length
    · rw [List.getElem_append_left hi, List.getElem_append_left (by rw [h.len]; exact hi)]
      exact ((h.reads i hi (by rw [h.len]; exact hi)).mono fun b _ hb => .inl hb).keep hk
    · have : i = out.length := by simp at a; omega
      subst this
      simp only [List.getElem_append_right (Nat.le_refl _), Nat.sub_self, List.getElem_cons_zero]
      rw [List.getElem_append_right (by rw [h.len]; exact Nat.le_refl _)]
      simp only [h.len, Nat.sub_self, List.getElem_cons_zero]
      exact (h.p.toV.mono fun b _ hb => .inr (hb.elim False.elim id)).keep hk
  row := by simpa using hr
  p := Cod.O.nil _ _ _ _ _
  f1 := fun b hb => by
    rcases hb with hb | hb
    · exact ⟨(h.f1 b hb).1, Nat.lt_of_lt_of_le (h.f1 b hb).2 hg.size⟩
    · exact ⟨(h.p.lt b hb).1, Nat.lt_of_lt_of_le (h.p.lt b hb).2 hg.size⟩
  f2 := fun _ _ e => by cases e
  f3 := fun hb => by
    rcases hat with rfl | hat
    · rcases hb with hb | hb
      · exact h.f3 hb
      · exact h.f4 hb
    · rcases hb with hb | hb
      · have := (h.f1 _ hb).2; omega
      · have := (h.p.lt _ hb).2; omega
  f4 := fun e => by cases e
/-- The part grows by one: stored back. -/
theorem QInv.push {w2 : World} {v2 : Value} {d : Dec} (h : QInv N w g cap vp part out F vals) (hp : decC.O (fun _ => False) N 23 w2 v2 (part ++ [d])) (hg : w.grownBy w2 vp.ownBlock) (hat : v2.ownBlock = vp.ownBlock ∨ ∃ b, v2.ownBlock = some b ∧ w.heap.size ≤ b) :
    QInv N (w2.setCell ⟨g, out.length, none⟩ v2) g cap v2 (part ++ [d]) out F vals := by
  have hlt := h.lt
  have hrow2 := h.row.kept hg (.inr fun e => h.f4 e.symm)
  have hst := hrow2.stored out.length v2
  have hne : v2.ownBlock ≠ some g := fun e => by
    rcases hat with hat | ⟨b, hat, hb⟩
    · exact h.f4 (hat.symm.trans e)
    · rw [hat] at e; injection e with e; omega
  have hkF : Keeps F w w2 := Keeps.of_grown hg fun k hk e => h.f2 k hk e
  exact {
    len := h.len
    reads := fun i a b => ((h.reads i a b).keep hkF).keep (Keeps.of_grown hst.2 fun k hk e => by injection e with e; subst e; exact h.f3 hk)
    row := by
      have := hst.1
      rw [← h.len] at this
      rw [List.set_append_right _ _ (Nat.le_refl _)] at this
      simp only [Nat.sub_self, List.set_cons_zero] at this
      rw [h.len] at this
      exact this
    p := hp.keep (Keeps.of_grown hst.2 fun k hk e => by
      injection e with e; subst e
      rcases hk with hk | hk
      · exact hk
      · exact hne hk)
    f1 := fun b hb => ⟨(h.f1 b hb).1, by have := (h.f1 b hb).2; have := hg.size; simp; omega⟩
    f2 := fun b hb e => by
      rcases hat with hat | ⟨k, hat, hk⟩
      · exact h.f2 b hb (hat.symm.trans e)
      · rw [hat] at e; injection e with e
        have := (h.f1 b hb).2; omega
    f3 := h.f3
    f4 := hne }
theorem QInv.result (h : QInv N w g cap vp part out F vals) : decC.slice.V (fun b => N ≤ b) w (.slice (some ⟨g, 0, none⟩) (out.length + 1) cap) (out ++ [part]) := by
  have hO : decC.slice.O (fun b => F b ∨ vp.ownBlock = some b) N 32 w (.slice (some ⟨g, 0, none⟩) (out.length + 1) cap) (out ++ [part]) := by
    refine ⟨(vals ++ [vp]).map (fun v => #[v]), by simp [h.len], fun i a b => ?_, ?_⟩
    · by_cases hi : i < out.length
      · refine ⟨vals[i]'(by rw [h.len]; exact hi), ?_, ?_⟩
        · rw [List.getElem_map, List.getElem_append_left (by rw [h.len]; exact hi)]
        · rw [List.getElem_append_left hi]
          exact (h.reads i hi (by rw [h.len]; exact hi)).mono fun b _ hb => .inl hb
      · have : i = out.length := by simp at a; omega
        subst this
        refine ⟨vp, ?_, ?_⟩
        · rw [List.getElem_map, List.getElem_append_right (by rw [h.len]; exact Nat.le_refl _)]
          simp [h.len]
        · rw [List.getElem_append_right (Nat.le_refl _)]
          simp only [Nat.sub_self, List.getElem_cons_zero]
          exact h.p.toV.mono fun b _ hb => .inr (hb.elim False.elim id)
    · have := h.row
      simp only [List.length_append, List.length_cons, List.length_nil, Nat.zero_add]
      rw [List.flatMap_map]
      show w.ownsRow N 32 1 _ _ _
      simpa [List.flatMap_singleton'] using this
  have := hO.toV
  exact this.mono fun b _ hb => by
    rcases hb with (hb | hb) | hb
    · exact (h.f1 b hb).1
    · exact (h.p.lt b hb).1
    · exact (hO.lt b hb).1
end

def decRow (part : List Dec) : List Value := part.flatMap fun d => d.cells.toList
theorem decRow_snoc (part : List Dec) (d : Dec) : decRow (part ++ [d]) = decRow part ++ d.cells.toList := by simp [decRow]
theorem decO_row {F : Nat → Prop} {B : Nat} {e : TypeId} {w : World} {v : Value} {part : List Dec} (h : decC.O F B e w v part) : w.ownsRow B e 4 v part.length (decRow part) := by
  obtain ⟨css, hl, hK, hown⟩ := h
  have : css = part.map Dec.cells := List.ext_getElem (by simp [hl]) fun i h1 h2 => by
    rw [List.getElem_map]
    exact hK i (by simpa using h2) h1
  rw [this, List.flatMap_map] at hown
  exact hown
theorem decO_of {F : Nat → Prop} {B : Nat} {e : TypeId} {w : World} {v : Value} {part : List Dec} {n : Nat} (hn : n = part.length) (h : w.ownsRow B e 4 v n (decRow part)) : decC.O F B e w v part := by
  subst hn
  refine ⟨part.map Dec.cells, by simp, fun i h h' => ?_, ?_⟩
  · rw [List.getElem_map]; rfl
  · rw [List.flatMap_map]; exact h
theorem QInv.push2 {N g cap : Nat} {w : World} {vp : Value} {part : List Dec} {out : List (List Dec)} {F : Nat → Prop} {vals : List Value} {w3 : World} {d : Dec} {o : Obj} {n m g3 cap3 : Nat} (h : QInv N w g cap vp part out F vals) (hm : m = part.length + 1)
    (hr : w3.ownsRow N 23 4 (.slice (some ⟨g3, 0, none⟩) m cap3) m (decRow part ++ d.cells.toList)) (hg : ((w.alloc o).drew).grownBy w3 vp.ownBlock) (hat : vp.ownBlock = some g3 ∨ g3 = w.heap.size + 1) (hn : n = out.length) :
    QInv N (w3.setCell ⟨g, n, none⟩ (.slice (some ⟨g3, 0, none⟩) m cap3)) g cap (.slice (some ⟨g3, 0, none⟩) m cap3) (part ++ [d]) out F vals := by
  subst hn
  have hg0 : w.grownBy ((w.alloc o).drew) none := have h := World.grownBy_alloc w o none; ⟨h.os, h.tape, h.output, h.size, h.block⟩
  refine (h.grown hg0).push (decO_of (n := m) (by simp [hm]) (by rw [decRow_snoc]; exact hr)) hg ?_
  rcases hat with hat | hat
  · exact .inl hat.symm
  · exact .inr ⟨g3, rfl, by rw [hat]; simp [World.drew]⟩
theorem QInv.push_below {N g cap : Nat} {w w0 : World} {vp : Value} {part : List Dec} {out : List (List Dec)} {F : Nat → Prop} {vals : List Value} {w3 : World} {o : Obj} {n : Nat} {u : Value} (h : QInv N w g cap vp part out F vals) (hb : Below N w0 w) (hs : N ≤ w.heap.size)
    (hg : ((w.alloc o).drew).grownBy w3 vp.ownBlock) : Below N w0 (w3.setCell ⟨g, n, none⟩ u) := by
  have h1 : Below N w0 ((w.alloc o).drew) := (hb.alloc hs o).drew
  exact (h1.grown hg (by simp [World.drew]; omega) fun k hk => (h.p.lt k hk).1).setCell (p := ⟨g, n, none⟩) h.lt.1 _

theorem refP_cons (o : List (List Dec)) (p : List Dec) (d : Dec) (l : List Dec) : refP o p (d :: l) = if d.kind = 5 ∧ d.epoch = (o.length : Int) + 1 then refP (o ++ [p]) [d] l else refP o (p ++ [d]) l := by rw [refP]

set_option maxRecDepth 100000 in
set_option maxHeartbeats 8000000 in
theorem refParts_calls (w : World) (A : Option Addr) (c : Nat) (l : List Dec) (hl : l.length ≤ 1048576) (hc : l.length ≤ c) (hA : A = none → c = 0) (hr : decC.R (fun b => b < w.heap.size) w A l) :
    Calls Tryd.prog 23 #[.slice A l.length c] w fun e w' => ∃ v, e = .returned v ∧ decC.slice.V (fun b => w.heap.size ≤ b) w' v (partsJ ⟨0, 0, false⟩ [] [] l) ∧ Below w.heap.size w w' := by
  have HR := Lib.hid hr; clear hr
  have HA := Lib.hid hA; clear hA
  have hE := refP_parts l (by omega)
  obtain ⟨N, hN⟩ : ∃ N, (runJ ⟨0, 0, false⟩ l).1 = N := ⟨_, rfl⟩
  have hNl : N ≤ l.length := by rw [← hN]; exact runJ_le l _
  rw [hN] at hE
  have HN := Lib.hid hN; clear hN
  obtain ⟨b, hb⟩ : ∃ b, decide (N = l.length) = b := ⟨_, rfl⟩
  have HBb := Lib.hid hb; clear hb
  obtain ⟨R, hR⟩ : ∃ R, partsJ ⟨0, 0, false⟩ [] [] l = R := ⟨_, rfl⟩
  rw [hR] at hE ⊢
  have HE := Lib.hid hE; clear hE hR
  obtain ⟨m, hm⟩ : ∃ m, l.take N = m := ⟨_, rfl⟩
  rw [hm] at HE
  have hml : m.length = N := by rw [← hm]; simp; omega
  have HM := Lib.hid hm; clear hm
  have HML := Lib.hid hml; clear hml
  obtain ⟨i32, hi32, hz32a, hz32b, hz32c⟩ := Option.map_eq_some_iff.1 info32 |>.elim fun i h => (⟨i, h.1, by have := h.2; simp only [Prod.mk.injEq] at this; exact this⟩ : ∃ i, Tryd.prog.info? 32 = some i ∧ i.zero = some (.slice none 0 0) ∧ i.size = 1 ∧ i.bytes = 24)
  obtain ⟨i23, hi23, hz23a, hz23b, hz23c⟩ := Option.map_eq_some_iff.1 info23 |>.elim fun i h => (⟨i, h.1, by have := h.2; simp only [Prod.mk.injEq] at this; exact this⟩ : ∃ i, Tryd.prog.info? 23 = some i ∧ i.zero = some (.agg #[.int .i64 0, .int .i64 0, .int .i64 0, .int .i64 0]) ∧ i.size = 4 ∧ i.bytes = 32)
  have I32 := Lib.hid hi32; have Z32a := Lib.hid hz32a; have Z32b := Lib.hid hz32b; have Z32c := Lib.hid hz32c
  have I23 := Lib.hid hi23; have Z23a := Lib.hid hz23a; have Z23b := Lib.hid hz23b; have Z23c := Lib.hid hz23c
  clear hi32 hz32a hz32b hz32c hi23 hz23a hz23b hz23c
  go_enter Tryd.func23, Tryd.ntmps23
  go_wp2_with fail
  refine (refJudge_calls' w A _ c l rfl (by omega) _ HR.out N b HN.out HBb.out).mono ?_
  rintro e w1 ⟨rfl, hb1⟩
  have HB1 := Lib.hid hb1; clear hb1
  have HR1 := Lib.hid (show decC.R (fun b => b < w.heap.size) w1 A m by rw [← HM.out]; exact Cod.R.takeN (HR.out.keep (Keeps.of_below HB1.out fun k _ h => h)) N)
  go_wp2
  go_loopw [5, 18] (fun v i wr => ∃ (k g cap : Nat) (vp : Value) (part : List Dec) (out : List (List Dec)) (F : Nat → Prop) (vals : List Value), k ≤ N ∧ out.length ≤ k ∧ part.length ≤ k ∧ v = .slice (some ⟨g, 0, none⟩) (out.length + 1) cap ∧ i = .int .i64 k ∧ Hid (QInv w1.heap.size wr g cap vp part out F vals) ∧ Hid (refP out part (m.drop k) = R) ∧ Hid (Below w1.heap.size w1 wr))
    (fun _ i _ => N - (intOf i).toNat)
  case atStart =>
    exact ⟨0, w1.heap.size, 1, .slice none 0 0, [], [], fun _ => False, [], Nat.zero_le _, Nat.le_refl _, Nat.le_refl _, rfl, rfl,
      ⟨rfl, fun i h => absurd h (by simp), World.ownsRow_lit w1 #[.slice none 0 0] 1 (Nat.le_refl _) (by decide) rfl, Cod.O.nil _ _ _ _ _, fun _ h => h.elim, fun _ h => h.elim, fun h => h, fun h => by cases h⟩, HE.out, (Below.refl _ _).alloc (Nat.le_refl _) _⟩
  case round =>
    obtain ⟨k, g, cap, vp, part, out, F, vals, hk, ho, hp, rfl, rfl, HQ, HH, HB⟩ := hrel
    by_cases hlt : k < N
    · obtain ⟨b', o, rfl, hbl, h0, h1, h2, h3⟩ := (HR1.out.keep (Keeps.of_below HB.out fun k _ h => h)).dec k (by rw [HML.out]; exact hlt)
      have hd := Lib.hid (drop_cons m k (by rw [HML.out]; exact hlt))
      obtain ⟨⟨a0, a1, a2, a3⟩, hdd⟩ : ∃ d, d = m[k]'(by rw [HML.out]; exact hlt) := ⟨_, rfl⟩
      rw [← hdd] at h0 h1 h2 h3 hd
      clear hdd
      have hsz := Lib.hid HB.out.size
      have HH2 : refP out part (⟨a0, a1, a2, a3⟩ :: m.drop (k + 1)) = R := by rw [← hd.out]; exact HH.out
      rw [refP_cons] at HH2
      have HH3 := Lib.hid HH2; clear HH2
      by_cases hx : a0 = 5
      · subst hx
        by_cases hy : a2 = (out.length : Int) + 1
        · have hyb : (a2 == (out.length : Int) + 1) = true := beq_iff_eq.2 hy
          have HH4 := Lib.hid (show refP (out ++ [part]) [⟨5, a1, a2, a3⟩] (m.drop (k + 1)) = R by have := HH3.out; rwa [if_pos ⟨rfl, hy⟩] at this)
          clear hy
          have hgl := HQ.out.lt
          go_wp2_with (at_builtin; refine wpList_append_lies _ rfl (.tmp 32) (.tmp 33) 35 rfl w1.heap.size 32 i32 _ 1 24 Tryd.underlying35 I32.out Z32a.out Z32b.out Z32c.out rfl (by decide) (.slice (some ⟨g, 0, none⟩) (out.length + 1) cap) (out.length + 1) (vals ++ [vp]) rfl ((HQ.out.row.alloc _).alloc _) ⟨wr.heap.size + 1, 0, none⟩ 1 1 [.slice none 0 0] rfl rfl (World.news_of_block (cs := #[.slice none 0 0]) (t := 32) (fr := (0, 0)) (by simpa using heap_alloc_new (wr.alloc _) _)) (by simp [Value.oneCell']) (by decide) (by simp only [maxLen]; omega) (by omega) (by have := hsz.out; simp; omega) (wr.heap.size + 1 + 1) (by simp) ?_)
          intro g2 cap2 w2 hown2 hgrow2 hat2 hlt2
          have HQ2 := Lib.hid (((HQ.out.grown (World.grownBy_alloc _ _ _)).grown (World.grownBy_alloc _ _ _)).new (by simpa using hown2) hgrow2 (hat2.elim (fun h => by injection h with h; exact .inl h) (fun h => .inr (by rw [h]; simp))))
          have HB2 := Lib.hid (((HB.out.alloc hsz.out _).alloc (by have := hsz.out; simp; omega) _).grown hgrow2 (by have := hsz.out; simp; omega) fun k hk => by injection hk with hk; have hk : g = k := hk; omega)
          obtain ⟨q0, q1, q2, q3, hs3⟩ := box4_grown (a0 := .int .i64 5) (a1 := .int .i64 a1) (a2 := .int .i64 a2) (a3 := .int .i64 a3) (g := wr.heap.size) (by refine ⟨?_, ?_, ?_, ?_⟩ <;> simp) (by simp; omega) hgrow2 (by intro h; injection h with h; have h : g = wr.heap.size := h; omega)
          have hs2 := Lib.hid (show w1.heap.size ≤ w2.heap.size by have := hgrow2.size; have := hsz.out; simp at *; omega)
          clear hown2 hgrow2 hat2 hlt2
          have hlast : w2.cell? ⟨g2, (out.length + 1), none⟩ = some (.slice none 0 0) := by simpa using HQ2.out.last
          have hg2 : w1.heap.size ≤ g2 := HQ2.out.lt.1
          have hlt2 : g2 < w2.heap.size := HQ2.out.lt.2
          have hg4 : Value.ownBlock (.slice none 0 0) ≠ some g2 := HQ2.out.f4
          have hfz : w2.frozen? ⟨g2, (out.length + 1), none⟩ = false := HQ2.out.row.frozenAt _
          have hca : ∀ o, ((w2.alloc o).drew).cell? ⟨g2, (out.length + 1), none⟩ = some (.slice none 0 0) := fun o => (World.cell?_of_block (a := ⟨g2, (out.length + 1), none⟩) (heap_alloc_lt w2 o g2 hlt2)).trans hlast
          have hfa : ∀ o, ((w2.alloc o).drew).frozen? ⟨g2, (out.length + 1), none⟩ = false := fun o => (World.frozen?_of_block (a := ⟨g2, (out.length + 1), none⟩) (heap_alloc_lt w2 o g2 hlt2)).trans hfz
          have hi0 : (0 : Int) ≤ (out.length : Int) + 1 := by omega
          have hi1 : ((out.length : Int) + 1) < (out.length : Int) + 1 + 1 := by omega
          have hi2 : IntKind.i64.wrap ((out.length : Int) + 1 + 1 - 1) = (out.length : Int) + 1 := by simp [IntKind.wrap, IntKind.bits, IntKind.signed]; omega
          have hi3 : IntKind.i64.wrap ((out.length : Int) + 1) = (out.length : Int) + 1 := by simp [IntKind.wrap, IntKind.bits, IntKind.signed]; omega
          have hi4 : ((out.length : Int) + 1).toNat = (out.length + 1) := by omega
          go_wp2_with fail
          go_region_law ((refine step_append_lies _ (by rfl) _ _ _ (by rfl) w1.heap.size 23 i23 _ 4 32 Tryd.underlying32 I23.out Z23a.out Z23b.out Z23c.out rfl (by decide) (.slice none 0 0) 0 (decRow []) (by rfl) (((decO_row HQ2.out.p).alloc _).drew) ⟨w2.heap.size, 0, none⟩ 1 1 [.int .i64 5, .int .i64 a1, .int .i64 a2, .int .i64 a3] (by rfl) (by rfl) (World.news_of_block (cs := #[.int .i64 5, .int .i64 a1, .int .i64 a2, .int .i64 a3]) (t := 23) (fr := (0, 0)) (heap_alloc_new w2 _)) (by simp [Value.oneCell']) (by decide) (by simp only [maxLen]; omega) (by omega) (by simp; omega) (w2.heap.size + 1) (by simp) ?_; intro g3 cap3 w3 hown3 hgrow3 hat3 hlt3; have c3 : w3.cell? ⟨g2, (out.length + 1), none⟩ = some (.slice none 0 0) := (hgrow3.cell_far ⟨g2, (out.length + 1), none⟩ (by simp; omega) hg4.symm).trans (hca _); have f3 : w3.frozen? ⟨g2, (out.length + 1), none⟩ = false := (hgrow3.frozen_far ⟨g2, (out.length + 1), none⟩ (by simp; omega) hg4.symm).trans (hfa _)))
          all_goals
            have HQ3 := Lib.hid (HQ2.out.push2 (d := ⟨5, a1, a2, a3⟩) (n := (out.length + 1)) (m := 0 + 1) rfl hown3 hgrow3 hat3 (by simp))
            have HB3 := Lib.hid (HQ2.out.push_below (n := (out.length + 1)) (u := .slice (some ⟨g3, 0, none⟩) (0 + 1) cap3) HB2.out hs2.out hgrow3)
            clear hown3 hgrow3 hat3 hlt3 c3 f3
            go_wp2
            exact ⟨⟨k + 1, g2, cap2, _, _, _, _, _, by omega, by first | omega | (simp; omega), by first | omega | (simp; omega) | simp, by first | rfl | simp, by go_num, HQ3, HH4, HB3⟩, by simp [intOf]; omega⟩
        · skip
          have hyb : (a2 == (out.length : Int) + 1) = false := beq_eq_false_iff_ne.2 hy
          have HH4 := Lib.hid (show refP out (part ++ [⟨5, a1, a2, a3⟩]) (m.drop (k + 1)) = R by have := HH3.out; rwa [if_neg (fun h => hy h.2)] at this)
          clear hy
          have HQ2 := Lib.hid (HQ.out.grown (World.grownBy_alloc wr (.cells #[.int .i64 5, .int .i64 a1, .int .i64 a2, .int .i64 a3] 23) none))
          have HB2 := Lib.hid (HB.out.alloc hsz.out (.cells #[.int .i64 5, .int .i64 a1, .int .i64 a2, .int .i64 a3] 23))
          have hs2 := Lib.hid (show w1.heap.size ≤ (wr.alloc (.cells #[.int .i64 5, .int .i64 a1, .int .i64 a2, .int .i64 a3] 23)).heap.size by have := hsz.out; simp; omega)
          obtain ⟨g2, cap2, hgc⟩ : ∃ g2 cap2, g2 = g ∧ cap2 = cap := ⟨_, _, rfl, rfl⟩
          obtain ⟨rfl, rfl⟩ := hgc
          go_wp2
          generalize hW2 : wr.alloc (.cells #[.int .i64 5, .int .i64 a1, .int .i64 a2, .int .i64 a3] 23) = w2 at HQ2 HB2 hs2 ⊢
          have q0 : w2.cell? ⟨wr.heap.size, 0, none⟩ = some (.int .i64 5) := by rw [← hW2]; simp
          have q1 : w2.cell? ⟨wr.heap.size, 1, none⟩ = some (.int .i64 a1) := by rw [← hW2]; simp
          have q2 : w2.cell? ⟨wr.heap.size, 2, none⟩ = some (.int .i64 a2) := by rw [← hW2]; simp
          have q3 : w2.cell? ⟨wr.heap.size, 3, none⟩ = some (.int .i64 a3) := by rw [← hW2]; simp
          have HW2 := Lib.hid hW2; clear hW2
          have hlast : w2.cell? ⟨g2, out.length, none⟩ = some vp := by simpa using HQ2.out.last
          have hg2 : w1.heap.size ≤ g2 := HQ2.out.lt.1
          have hlt2 : g2 < w2.heap.size := HQ2.out.lt.2
          have hg4 : vp.ownBlock ≠ some g2 := HQ2.out.f4
          have hfz : w2.frozen? ⟨g2, out.length, none⟩ = false := HQ2.out.row.frozenAt _
          have hca : ∀ o, ((w2.alloc o).drew).cell? ⟨g2, out.length, none⟩ = some vp := fun o => (World.cell?_of_block (a := ⟨g2, out.length, none⟩) (heap_alloc_lt w2 o g2 hlt2)).trans hlast
          have hfa : ∀ o, ((w2.alloc o).drew).frozen? ⟨g2, out.length, none⟩ = false := fun o => (World.frozen?_of_block (a := ⟨g2, out.length, none⟩) (heap_alloc_lt w2 o g2 hlt2)).trans hfz
          have hi0 : (0 : Int) ≤ (out.length : Int) := by omega
          have hi1 : ((out.length : Int)) < (out.length : Int) + 1 := by omega
          have hi2 : IntKind.i64.wrap ((out.length : Int) + 1 - 1) = (out.length : Int) := by simp [IntKind.wrap, IntKind.bits, IntKind.signed]; omega
          have hi3 : IntKind.i64.wrap ((out.length : Int)) = (out.length : Int) := by simp [IntKind.wrap, IntKind.bits, IntKind.signed]; omega
          have hi4 : ((out.length : Int)).toNat = out.length := by omega
          go_wp2_with fail
          go_region_law ((refine step_append_lies _ (by rfl) _ _ _ (by rfl) w1.heap.size 23 i23 _ 4 32 Tryd.underlying32 I23.out Z23a.out Z23b.out Z23c.out rfl (by decide) vp part.length (decRow part) (by rfl) (((decO_row HQ2.out.p).alloc _).drew) ⟨w2.heap.size, 0, none⟩ 1 1 [.int .i64 5, .int .i64 a1, .int .i64 a2, .int .i64 a3] (by rfl) (by rfl) (World.news_of_block (cs := #[.int .i64 5, .int .i64 a1, .int .i64 a2, .int .i64 a3]) (t := 23) (fr := (0, 0)) (heap_alloc_new w2 _)) (by simp [Value.oneCell']) (by decide) (by simp only [maxLen]; omega) (by omega) (by simp; omega) (w2.heap.size + 1) (by simp) ?_; intro g3 cap3 w3 hown3 hgrow3 hat3 hlt3; have c3 : w3.cell? ⟨g2, out.length, none⟩ = some vp := (hgrow3.cell_far ⟨g2, out.length, none⟩ (by simp; omega) hg4.symm).trans (hca _); have f3 : w3.frozen? ⟨g2, out.length, none⟩ = false := (hgrow3.frozen_far ⟨g2, out.length, none⟩ (by simp; omega) hg4.symm).trans (hfa _)))
          all_goals
            have HQ3 := Lib.hid (HQ2.out.push2 (d := ⟨5, a1, a2, a3⟩) (n := out.length) (m := part.length + 1) rfl hown3 hgrow3 hat3 (by simp))
            have HB3 := Lib.hid (HQ2.out.push_below (n := out.length) (u := .slice (some ⟨g3, 0, none⟩) (part.length + 1) cap3) HB2.out hs2.out hgrow3)
            clear hown3 hgrow3 hat3 hlt3 c3 f3
            go_wp2
            exact ⟨⟨k + 1, g2, cap2, _, _, _, _, _, by omega, by first | omega | (simp; omega), by first | omega | (simp; omega) | simp, by first | rfl | simp, by go_num, HQ3, HH4, HB3⟩, by simp [intOf]; omega⟩
      · skip
        have hyb : (a0 == 5) = false := beq_eq_false_iff_ne.2 hx
        have HH4 := Lib.hid (show refP out (part ++ [⟨a0, a1, a2, a3⟩]) (m.drop (k + 1)) = R by have := HH3.out; rwa [if_neg (fun h => hx h.1)] at this)
        clear hx
        have HQ2 := Lib.hid (HQ.out.grown (World.grownBy_alloc wr (.cells #[.int .i64 a0, .int .i64 a1, .int .i64 a2, .int .i64 a3] 23) none))
        have HB2 := Lib.hid (HB.out.alloc hsz.out (.cells #[.int .i64 a0, .int .i64 a1, .int .i64 a2, .int .i64 a3] 23))
        have hs2 := Lib.hid (show w1.heap.size ≤ (wr.alloc (.cells #[.int .i64 a0, .int .i64 a1, .int .i64 a2, .int .i64 a3] 23)).heap.size by have := hsz.out; simp; omega)
        obtain ⟨g2, cap2, hgc⟩ : ∃ g2 cap2, g2 = g ∧ cap2 = cap := ⟨_, _, rfl, rfl⟩
        obtain ⟨rfl, rfl⟩ := hgc
        go_wp2
        generalize hW2 : wr.alloc (.cells #[.int .i64 a0, .int .i64 a1, .int .i64 a2, .int .i64 a3] 23) = w2 at HQ2 HB2 hs2 ⊢
        have q0 : w2.cell? ⟨wr.heap.size, 0, none⟩ = some (.int .i64 a0) := by rw [← hW2]; simp
        have q1 : w2.cell? ⟨wr.heap.size, 1, none⟩ = some (.int .i64 a1) := by rw [← hW2]; simp
        have q2 : w2.cell? ⟨wr.heap.size, 2, none⟩ = some (.int .i64 a2) := by rw [← hW2]; simp
        have q3 : w2.cell? ⟨wr.heap.size, 3, none⟩ = some (.int .i64 a3) := by rw [← hW2]; simp
        have HW2 := Lib.hid hW2; clear hW2
        have hlast : w2.cell? ⟨g2, out.length, none⟩ = some vp := by simpa using HQ2.out.last
        have hg2 : w1.heap.size ≤ g2 := HQ2.out.lt.1
        have hlt2 : g2 < w2.heap.size := HQ2.out.lt.2
        have hg4 : vp.ownBlock ≠ some g2 := HQ2.out.f4
        have hfz : w2.frozen? ⟨g2, out.length, none⟩ = false := HQ2.out.row.frozenAt _
        have hca : ∀ o, ((w2.alloc o).drew).cell? ⟨g2, out.length, none⟩ = some vp := fun o => (World.cell?_of_block (a := ⟨g2, out.length, none⟩) (heap_alloc_lt w2 o g2 hlt2)).trans hlast
        have hfa : ∀ o, ((w2.alloc o).drew).frozen? ⟨g2, out.length, none⟩ = false := fun o => (World.frozen?_of_block (a := ⟨g2, out.length, none⟩) (heap_alloc_lt w2 o g2 hlt2)).trans hfz
        have hi0 : (0 : Int) ≤ (out.length : Int) := by omega
        have hi1 : ((out.length : Int)) < (out.length : Int) + 1 := by omega
        have hi2 : IntKind.i64.wrap ((out.length : Int) + 1 - 1) = (out.length : Int) := by simp [IntKind.wrap, IntKind.bits, IntKind.signed]; omega
        have hi3 : IntKind.i64.wrap ((out.length : Int)) = (out.length : Int) := by simp [IntKind.wrap, IntKind.bits, IntKind.signed]; omega
        have hi4 : ((out.length : Int)).toNat = out.length := by omega
        go_wp2_with fail
        go_region_law ((refine step_append_lies _ (by rfl) _ _ _ (by rfl) w1.heap.size 23 i23 _ 4 32 Tryd.underlying32 I23.out Z23a.out Z23b.out Z23c.out rfl (by decide) vp part.length (decRow part) (by rfl) (((decO_row HQ2.out.p).alloc _).drew) ⟨w2.heap.size, 0, none⟩ 1 1 [.int .i64 a0, .int .i64 a1, .int .i64 a2, .int .i64 a3] (by rfl) (by rfl) (World.news_of_block (cs := #[.int .i64 a0, .int .i64 a1, .int .i64 a2, .int .i64 a3]) (t := 23) (fr := (0, 0)) (heap_alloc_new w2 _)) (by simp [Value.oneCell']) (by decide) (by simp only [maxLen]; omega) (by omega) (by simp; omega) (w2.heap.size + 1) (by simp) ?_; intro g3 cap3 w3 hown3 hgrow3 hat3 hlt3; have c3 : w3.cell? ⟨g2, out.length, none⟩ = some vp := (hgrow3.cell_far ⟨g2, out.length, none⟩ (by simp; omega) hg4.symm).trans (hca _); have f3 : w3.frozen? ⟨g2, out.length, none⟩ = false := (hgrow3.frozen_far ⟨g2, out.length, none⟩ (by simp; omega) hg4.symm).trans (hfa _)))
        all_goals
          have HQ3 := Lib.hid (HQ2.out.push2 (d := ⟨a0, a1, a2, a3⟩) (n := out.length) (m := part.length + 1) rfl hown3 hgrow3 hat3 (by simp))
          have HB3 := Lib.hid (HQ2.out.push_below (n := out.length) (u := .slice (some ⟨g3, 0, none⟩) (part.length + 1) cap3) HB2.out hs2.out hgrow3)
          clear hown3 hgrow3 hat3 hlt3 c3 f3
          go_wp2
          exact ⟨⟨k + 1, g2, cap2, _, _, _, _, _, by omega, by first | omega | (simp; omega), by first | omega | (simp; omega) | simp, by first | rfl | simp, by go_num, HQ3, HH4, HB3⟩, by simp [intOf]; omega⟩
    · have e1 := HH.out
      rw [List.drop_of_length_le (by rw [HML.out]; omega)] at e1
      have E1 := Lib.hid (show out ++ [part] = R from e1); clear e1
      go_wp2
      go_ret
      rw [← E1.out]
      exact ⟨_, rfl, HQ.out.result.mono fun b _ hb => Nat.le_trans HB1.out.size hb, HB1.out.trans (HB.out.mono HB1.out.size)⟩
end Go.Proofs.YtmokcebpgfhddaaDoor
