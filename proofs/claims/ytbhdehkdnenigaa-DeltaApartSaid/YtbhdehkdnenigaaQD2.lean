/- The kinds of this seat's values and their words, as the kit's print wrote them for this claim.
Walk: a value with lists of its own, spare room behind each, a mark in it.
Walk: all that a value's lists hold is written over.
Worlds and lists: a value's list that grows, and lists of pairs that grow out of its versions' own.
Walk: all lists of a value grow, one by one; all marks are as they were then.
Walk: a value that was given as it was, the marks too.
Walks: the document's Since, and what is below a number.
Walks: delta.added, delta.Since.
Walks: the document's Since of a bad number; two deltas alike.
Walks: cmp.Compare, cmp.Or, delta.order.
Walks: cmp.Or of two, delta.order.
Walk: delta.merged: two sorted lists as one.
Faces: contracts that were walked by hand, told in the words that the kit's print uses for its own functions. -/
import Derived.Deep.RegionLaw
import Derived.Test.YtbhdehkdnenigaaProg
import Derived.Below
import Derived.Deep.Draws
import Derived.Deep.AppendLies
import Derived.Maps.AppendAt
import Derived.OwnWalk
import Derived.Laws.BytesArg
import Derived.Laws.MakeOwn
import Derived.Laws.OwnMore
import Derived.Deep.OwnRows
import Derived.Tactics
import Derived.Lib.ConvBytes
import Derived.Laws.Slices
import Derived.WalkKit
import Derived.KernelRfl
import Derived.RowKit3
import Derived.Deep.LoopGhost
import Derived.Deep.QuietTactic
import Derived.BigQuiet
import Derived.WideLaws
import Derived.Deep.DeepCutAuto
import Derived.Deep.CutBlock
import Derived.Deep.RegionHeld3
import Derived.Laws.Rows
import Derived.Lib.AppendStr
import Derived.ArgAppend
import Derived.Laws.IdiomCopy
import Derived.OrdersHeld
import Derived.Laws.BitsLemmas
import Derived.RowKit
import Derived.Test.YtbhdehkdnenigaaQD1
/-! ### 39. Stores into a row that may begin inside its block (Q): Q_form, Q_elem, Q_seg; scalars: Q_cell, Q_putg -/
namespace Go.Proofs.YtbhdehkdnenigaaW.PrintWords
open Go.RowKit
namespace Kd
section
variable {α : Type} {d : Kd α} {e base g o n cap : Nat} {ok okp : Nat → Prop} {w W : World} {v : Value} {xs : List α}
theorem Q_form (h : d.Q e w base ok v xs) (hp : 0 < xs.length) : ∃ g o cap, v = .slice (some ⟨g, o, none⟩) xs.length cap ∧ base ≤ g ∧ g < w.heap.size ∧ ∃ cells, w.heap[g]? = some (.cells cells e (0, 0)) := by
  obtain ⟨h0, inner, hq, hr⟩ := h
  rcases hq.2 with ⟨h1, _⟩ | ⟨g, off, cap, cur, rfl, hb, hh, r⟩
  · omega
  · exact ⟨g, off * d.sz, cap, rfl, hb, blk_lt hh, cur, hh⟩
/-- Element i of such a row: its cells. -/
theorem Q_elem (h : d.Q e W base ok (.slice (some ⟨g, o, none⟩) n cap) xs) (z : α) (i : Int) (h0 : 0 ≤ i) (h1 : i < n) :
    ∃ c, c.length = d.sz ∧ d.M W base (fun k => ok k ∧ k ≠ g) (xs.getD i.toNat z) c ∧ (∀ j u, c[j]? = some u → W.cell? ⟨g, o + i.toNat * d.sz + j, none⟩ = some u) ∧ ∀ j, W.frozen? ⟨g, o + i.toNat * d.sz + j, none⟩ = false := by
  obtain ⟨hn, hnc, hC⟩ := Q_reads' h
  obtain ⟨_, inner, ho, hr⟩ := h
  have hil : i.toNat < xs.length := by omega
  have hseg : i.toNat * d.sz + d.sz ≤ inner.length := by rw [hr.1, ← Nat.succ_mul]; exact Nat.mul_le_mul_right _ hil
  have hM := hr.2 i.toNat _ (List.getElem?_eq_getElem hil)
  refine ⟨(inner.drop (i.toNat * d.sz)).take d.sz, by rw [List.length_take, List.length_drop]; omega, ?_, fun j u hu => ?_, fun j => ?_⟩
  · rw [List.getD_eq_getElem?_getD, List.getElem?_eq_getElem hil]
    exact d.M_mono (fun k hk => ⟨hk.1, fun he => hk.2 (by rw [he]; simp [Value.ownBlock])⟩) hM
  · rw [List.getElem?_take] at hu
    split at hu
    · rw [List.getElem?_drop] at hu
      subst hn
      obtain ⟨ad, he, hc⟩ := q_cells ho (by omega)
      injection he with he
      subst he
      have := hc _ u hu
      rwa [add_at, ← Nat.add_assoc] at this
    · cases hu
  · obtain ⟨_, cells, hc⟩ := q_typed ho g (by simp [Value.ownBlock])
    exact blk_frozen hc _
/-- A run of cells of element i is written: element i is x' then. c: the element's cells before (Q_elem). -/
theorem Q_seg (h : d.Q e W base ok (.slice (some ⟨g, o, none⟩) n cap) xs) (i : Int) (h0 : 0 ≤ i) (h1 : i < n) {c seg : List Value} {j : Nat} (hcl : c.length = d.sz) (hcc : ∀ j u, c[j]? = some u → W.cell? ⟨g, o + i.toNat * d.sz + j, none⟩ = some u)
    (hj : j + seg.length ≤ d.sz) {x' : α} (hM : d.M W base okp x' (c.take j ++ seg ++ c.drop (j + seg.length))) (hokp : ∀ k, okp k → ok k ∧ k ≠ g) :
    d.Q e (W.setCells g (o + i.toNat * d.sz + j) seg) base ok (.slice (some ⟨g, o, none⟩) n cap) (xs.set i.toNat x') ∧ W.grownBy (W.setCells g (o + i.toNat * d.sz + j) seg) (some g) := by
  obtain ⟨hn, hnc, _⟩ := Q_reads' h
  obtain ⟨hok, inner, ho, hr⟩ := h
  have hil : i.toNat < xs.length := by omega
  have hseg : i.toNat * d.sz + d.sz ≤ inner.length := by rw [hr.1, ← Nat.succ_mul]; exact Nat.mul_le_mul_right _ hil
  have hin : inner.length = n * d.sz := by rw [hr.1, hn]
  obtain ⟨ho1, ho2⟩ := ho
  rcases ho2 with ⟨hz, _⟩ | ⟨g', off, cap', cur, hv, hb, hh, hnc', hcm, hcs, ht⟩
  · omega
  injection hv with ha _ hc
  injection ha with ha
  injection ha with hg hoff
  subst hg; subst hc; subst hoff
  have hcap : n * d.sz ≤ cap * d.sz := Nat.mul_le_mul_right _ hnc
  have hcs' : cur.size = off * d.sz + cap * d.sz := by rw [hcs, Nat.add_mul]
  have hfit : off * d.sz + i.toNat * d.sz + j + seg.length ≤ cur.size := by omega
  obtain ⟨cur', h3, h4, h5⟩ := setCells_row seg (off * d.sz + i.toNat * d.sz + j) W cur hh hfit
  obtain ⟨s1, s2, s3, s4⟩ := setCells_same g seg (off * d.sz + i.toNat * d.sz + j) W
  have hfar : ∀ k, k ≠ g → (W.setCells g (off * d.sz + i.toNat * d.sz + j) seg).heap[k]? = W.heap[k]? := fun k hk => setCells_far seg _ k hk
  rw [← hn] at ht
  -- the row's cells are the block's from off on
  have hat : ∀ q, q < n * d.sz → cur.toList[off * d.sz + q]? = inner[q]? := by
    intro q hq
    rw [← ht, List.getElem?_take, if_pos hq, List.getElem?_drop]
  have hcin : ∀ q, q < d.sz → c[q]? = inner[i.toNat * d.sz + q]? := by
    intro q hq
    have hq' : q < c.length := by omega
    have h6 := hcc q _ (List.getElem?_eq_getElem hq')
    rw [cell_of_row W g _ cur e (0, 0) hh] at h6
    rw [List.getElem?_eq_getElem hq', ← h6, ← hat _ (by omega), Array.getElem?_toList, Nat.add_assoc]
  refine ⟨⟨hok, inner.take (i.toNat * d.sz + j) ++ seg ++ inner.drop (i.toNat * d.sz + j + seg.length), ⟨?_, .inr ⟨g, off, cap, cur', by rw [List.length_set, hn], hb, h3, by rw [List.length_set, ← hn]; exact hnc, hcm, by rw [h4, hcs], ?_⟩⟩, ?_⟩,
    ⟨s1, s2, s3, by rw [s4]; exact Nat.le_refl _, fun k _ hk => hfar k (fun he => hk (by rw [he]))⟩⟩
  · rw [List.length_set]
    simp only [List.length_append, List.length_take, List.length_drop]
    rw [hr.1] at hseg ⊢
    omega
  · rw [List.length_set, ← hn]
    apply List.ext_getElem?
    intro q
    rw [List.getElem?_take, List.getElem?_drop, h5]
    rw [seg_get cur.toList seg (off * d.sz + i.toNat * d.sz + j) (by rw [Array.length_toList]; omega) (off * d.sz + q), seg_get inner seg (i.toNat * d.sz + j) (by omega) q]
    by_cases hq : q < n * d.sz
    · rw [if_pos hq]
      by_cases hq1 : q < i.toNat * d.sz + j
      · rw [if_pos (by omega), if_pos hq1, hat q hq]
      · rw [if_neg (by omega), if_neg hq1]
        by_cases hq2 : q < i.toNat * d.sz + j + seg.length
        · rw [if_pos (by omega), if_pos hq2]
          congr 1
          omega
        · rw [if_neg (by omega), if_neg hq2, hat q hq]
    · rw [if_neg hq, if_neg (by omega), if_neg (by omega), List.getElem?_eq_none (by omega)]
  · refine ⟨?_, fun m p hm => ?_⟩
    · rw [List.length_set]
      simp only [List.length_append, List.length_take, List.length_drop]
      rw [hr.1] at hseg ⊢
      omega
    · have hml : m < xs.length := by
        have := (List.getElem?_eq_some_iff.1 hm).1
        rwa [List.length_set] at this
      have hmfit : m * d.sz + d.sz ≤ inner.length := by rw [hr.1, ← Nat.succ_mul]; exact Nat.mul_le_mul_right _ hml
      have hgo : some g = (Value.slice (some ⟨g, off * d.sz, none⟩) n cap).ownBlock := by simp [Value.ownBlock]
      by_cases hmi : m = i.toNat
      · subst hmi
        rw [List.getElem?_set_self (by omega)] at hm
        injection hm with hm
        subst hm
        have hcells : ((inner.take (i.toNat * d.sz + j) ++ seg ++ inner.drop (i.toNat * d.sz + j + seg.length)).drop (i.toNat * d.sz)).take d.sz = c.take j ++ seg ++ c.drop (j + seg.length) := by
          apply List.ext_getElem?
          intro q
          rw [List.getElem?_take, List.getElem?_drop, seg_get inner seg _ (by omega), seg_get c seg j (by omega) q]
          by_cases hq : q < d.sz
          · rw [if_pos hq, hcin q hq]
            by_cases hq1 : q < j
            · rw [if_pos (by omega), if_pos hq1]
            · rw [if_neg (by omega), if_neg hq1]
              by_cases hq2 : q < j + seg.length
              · rw [if_pos (by omega), if_pos hq2]
                congr 1
                omega
              · rw [if_neg (by omega), if_neg hq2]
          · rw [if_neg hq, if_neg (by omega), if_neg (by omega), List.getElem?_eq_none (by omega)]
        rw [hcells]
        refine d.M_mono (fun k hk => ?_) (d.M_move (w1 := W.setCells g (off * d.sz + i.toNat * d.sz + j) seg) (fun k hk => hfar k (hokp k hk).2) hM)
        exact ⟨(hokp k hk).1, fun he => (hokp k hk).2 (by rw [← hgo] at he; injection he)⟩
      · rw [List.getElem?_set_ne (by omega)] at hm
        have hold := hr.2 m p hm
        have hcells : ((inner.take (i.toNat * d.sz + j) ++ seg ++ inner.drop (i.toNat * d.sz + j + seg.length)).drop (m * d.sz)).take d.sz = (inner.drop (m * d.sz)).take d.sz := by
          apply List.ext_getElem?
          intro q
          rw [List.getElem?_take, List.getElem?_take, List.getElem?_drop, List.getElem?_drop, seg_get inner seg _ (by omega)]
          by_cases hq : q < d.sz
          · rw [if_pos hq, if_pos hq]
            rcases Nat.lt_or_gt_of_ne hmi with hlt | hgt
            · have : m * d.sz + d.sz ≤ i.toNat * d.sz := by rw [← Nat.succ_mul]; exact Nat.mul_le_mul_right _ hlt
              rw [if_pos (by omega)]
            · have : i.toNat * d.sz + d.sz ≤ m * d.sz := by rw [← Nat.succ_mul]; exact Nat.mul_le_mul_right _ hgt
              rw [if_neg (by omega), if_neg (by omega)]
          · rw [if_neg hq, if_neg hq]
        rw [hcells]
        refine d.M_move (fun k hk => hfar k (fun he => hk.2 (by rw [he]; exact hgo))) hold
end
section
variable {α : Type} {enc : α → Value} {h1 : ∀ x, (enc x).oneCell' = true} {e base g o n cap : Nat} {ok : Nat → Prop} {W : World} {xs : List α}
theorem Q_cell (d : α) (h : (scalar enc h1).Q e W base ok (.slice (some ⟨g, o, none⟩) n cap) xs) (i : Int) (h0 : 0 ≤ i) (hi : i < n) : W.cell? ⟨g, o + i.toNat, none⟩ = some (enc (rdOf d xs i)) ∧ W.frozen? ⟨g, o + i.toNat, none⟩ = false := by
  obtain ⟨c, _, hM, hcc, hf⟩ := Q_elem h d i h0 hi
  have hM' : c = [enc (xs.getD i.toNat d)] := hM
  subst hM'
  have h2 := hcc 0 _ rfl
  have h3 := hf 0
  rw [show (scalar enc h1).sz = 1 from rfl, Nat.mul_one, Nat.add_zero] at h2 h3
  exact ⟨h2, h3⟩
theorem Q_putg (h : (scalar enc h1).Q e W base ok (.slice (some ⟨g, o, none⟩) n cap) xs) (i : Int) (h0 : 0 ≤ i) (hi : i < n) (x : α) : (scalar enc h1).Q e (W.setCell ⟨g, o + i.toNat, none⟩ (enc x)) base ok (.slice (some ⟨g, o, none⟩) n cap) (xs.set i.toNat x) ∧ W.grownBy (W.setCell ⟨g, o + i.toNat, none⟩ (enc x)) (some g) := by
  have hp : 0 < xs.length := by have := (Q_reads' h).1; omega
  obtain ⟨c, hcl, _, hcc, _⟩ := Q_elem h (xs[0]'hp) i h0 hi
  have h2 := Q_seg h i h0 hi (c := c) (seg := [enc x]) (j := 0) (okp := fun _ => False) (x' := x) hcl hcc (Nat.le_refl 1) (by
    have hl : c.length = 1 := hcl
    show c.take 0 ++ [enc x] ++ c.drop (0 + 1) = [enc x]
    rw [List.drop_eq_nil_of_le (by omega)]
    rfl) (fun _ hk => hk.elim)
  rw [show (scalar enc h1).sz = 1 from rfl, Nat.mul_one, Nat.add_zero] at h2
  exact h2
end
end Kd
end Go.Proofs.YtbhdehkdnenigaaW.PrintWords

/-! ### 41. Arrays '[n]T' as_ values: a kind (a field, an element of a row), an element read, an element set -/
namespace Go.Proofs.YtbhdehkdnenigaaW.PrintWords
open Go.RowKit
namespace Kd
section
variable {α : Type} {n : Nat} {d : Kd α} {hs : 0 < d.sz} {w : World} {base : Nat} {ok : Nat → Prop} {xs : List α} {cs : List Value}
end
section
variable {α : Type} {n : Nat} {enc : α → Value} {h1 : ∀ x, (enc x).oneCell' = true} {hs : 0 < (scalar enc h1).sz} {w : World} {base : Nat} {ok : Nat → Prop} {xs : List α} {cs : List Value}
end
end Kd
end Go.Proofs.YtbhdehkdnenigaaW.PrintWords

/-! ### 42. append(v, make([]T, n)...): the operation comes as_ append with the number in the second place -/
namespace Go.Proofs.YtbhdehkdnenigaaW.PrintWords
open Go.RowKit
section
variable {P : Program}
end
namespace Kd
section
variable {P : Program} {ops : Array Oper} {rest : List Oper} {o : Oper} {a : Act} {Q : Exit → Act → World → Prop} {Kc : Act → World → Prop} {α : Type}
end
/-! #### the same for rows whose elements lie apart -/
section
variable {α : Type} {d : Kd α} {e : Nat} {w : World} {base : Nat} {ok : Nat → Prop} {v : Value} {xs : List α}
end
section
variable {P : Program} {ops : Array Oper} {rest : List Oper} {o : Oper} {a : Act} {Q : Exit → Act → World → Prop} {Kc : Act → World → Prop} {α : Type}
end
end Kd
end Go.Proofs.YtbhdehkdnenigaaW.PrintWords

/-! ### 43. What is read beside a state: it stays read whatever the state's calls turn ('∀ W', KeepBut w W' g none → d.C W' A n xs') -/
namespace Go.Proofs.YtbhdehkdnenigaaW.PrintWords
open Go.RowKit
namespace Kd
/-- What a kind reads lies in the blocks: nothing else of the world is looked at. -/
structure Heap {α : Type} (d : Kd α) : Prop where
  K : ∀ {w w1 : World} {x : α} {cs : List Value}, (∀ k, k < w.heap.size → w1.heap[k]? = w.heap[k]?) → d.K w x cs → d.K w1 x cs
theorem cell_heap {w w1 : World} (hb : ∀ k, k < w.heap.size → w1.heap[k]? = w.heap[k]?) {a : Addr} {v : Value} (h : w.cell? a = some v) : w1.cell? a = some v := by
  have := hb a.block (World.block_lt_of_cell? w a h)
  simpa [World.cell?, this] using h
theorem Heap.C {α : Type} {d : Kd α} (hd : Heap d) {w w1 : World} {A : Option Addr} {n : Nat} {xs : List α} (hb : ∀ k, k < w.heap.size → w1.heap[k]? = w.heap[k]?) (h : d.C w A n xs) : d.C w1 A n xs :=
  ⟨h.1, h.2.1, fun hn => by
    obtain ⟨ad, e, hc⟩ := h.2.2 hn
    refine ⟨ad, e, fun j p hj => ?_⟩
    obtain ⟨c, hs, hr, hcell⟩ := hc j p hj
    exact ⟨c, hs, hd.K hb hr, fun i u hu => cell_heap hb (hcell i u hu)⟩⟩
section
variable {α : Type} {d : Kd α} {e base g n c : Nat} {ok : Nat → Prop} {w w0 W : World} {A : Option Addr} {xs : List α}
end
end Kd
end Go.Proofs.YtbhdehkdnenigaaW.PrintWords

/-! ### 45. What a call keeps: all but the blocks of S (the rows that it was given to write) and what is new since -/
namespace Go.Proofs.YtbhdehkdnenigaaW.PrintWords
open Go.RowKit
def Kept (w W : World) (S : Nat → Prop) : Prop := w.heap.size ≤ W.heap.size ∧ ∀ i, i < w.heap.size → ¬ S i → W.heap[i]? = w.heap[i]?
section
variable {w W W2 : World} {S S2 S' : Nat → Prop}
theorem Kept.refl (w : World) (S : Nat → Prop) : Kept w w S := ⟨Nat.le_refl _, fun _ _ _ => rfl⟩
theorem Kept.of_below (h : Below w.heap.size w W) (S : Nat → Prop) : Kept w W S := ⟨h.size, fun i hi _ => h.block i hi⟩
theorem Kept.mono (h : Kept w W S) (hs : ∀ k, S k → S' k) : Kept w W S' := ⟨h.1, fun i hi hn => h.2 i hi (fun hk => hn (hs i hk))⟩
theorem Kept.then_ (h : Kept w W S) (k : Kept W W2 S2) (hs : ∀ k, S2 k → S k ∨ w.heap.size ≤ k) : Kept w W2 S :=
  ⟨Nat.le_trans h.1 k.1, fun i hi hn => (k.2 i (Nat.lt_of_lt_of_le hi h.1) (fun h2 => (hs i h2).elim hn (fun h3 => by omega))).trans (h.2 i hi hn)⟩
theorem Kept.below (h : Kept w W S) (hb : Below W.heap.size W W2) : Kept w W2 S := h.then_ (Kept.of_below hb (fun _ => False)) (fun _ hk => hk.elim)
theorem Kept.alloc (h : Kept w W S) (o : Obj) : Kept w (W.alloc o) S := h.below (below_alloc (Below.refl _ _) o)
theorem Kept.drew (h : Kept w W S) : Kept w W.drew S := h
theorem Kept.drewN (h : Kept w W S) (m : Nat) : Kept w (W.drewN m) S := h
theorem Kept.setCell (h : Kept w W S) {p : Addr} (hp : S p.block ∨ w.heap.size ≤ p.block) (u : Value) : Kept w (W.setCell p u) S :=
  h.then_ (S2 := fun k => k = p.block) ⟨by simp [World.setCell], fun i _ hn => Below.heap_setCell W p u i hn⟩ (fun k hk => by rw [hk]; exact hp)
/-- Beside a state: what was written is new since. -/
theorem Kept.keep {g : Nat} (h : KeepBut w W g none) (k : Kept W W2 S2) (hs : ∀ k, S2 k → w.heap.size ≤ k) : KeepBut w W2 g none :=
  ⟨Nat.le_trans h.1 k.1, fun i hi hg hr => (k.2 i (Nat.lt_of_lt_of_le hi h.1) (fun h2 => by have := hs i h2; omega)).trans (h.2 i hi hg hr)⟩
end
namespace Kd
section
variable {α : Type} {d : Kd α} {e base n c : Nat} {ok oki S S2 : Nat → Prop} {w w0 W W1 W2 : World} {v : Value} {A : Option Addr} {xs : List α} {i : Int} {cs : List Value}
end
end Kd
end Go.Proofs.YtbhdehkdnenigaaW.PrintWords

/-! ### 46. Values that share: what is only read, with the blocks it lies in (its footprint 'ok'): Foot, F (a row that is read), FK (an element's cells) -/
namespace Go.Proofs.YtbhdehkdnenigaaW.PrintWords
open Go.RowKit
/-- P holds in W and in every world that has W's blocks of ok. -/
def Foot (P : World → Prop) (W : World) (ok : Nat → Prop) : Prop := ∀ W' : World, (∀ k, ok k → k < W.heap.size → W'.heap[k]? = W.heap[k]?) → P W'
theorem heap_lt {W W1 : World} {k : Nat} (h : W1.heap[k]? = W.heap[k]?) (hlt : k < W.heap.size) : k < W1.heap.size := by
  rw [Array.getElem?_eq_getElem hlt] at h
  exact (Array.getElem?_eq_some_iff.1 h).1
namespace Foot
variable {P Q : World → Prop} {W W1 : World} {ok ok' : Nat → Prop}
theorem now (h : Foot P W ok) : P W := h W (fun _ _ _ => rfl)
theorem mono (h : Foot P W ok) (hok : ∀ k, ok k → ok' k) : Foot P W ok' := fun W' hW => h W' (fun k hk hlt => hW k (hok k hk) hlt)
theorem bound (h : Foot P W ok) : Foot P W (fun k => ok k ∧ k < W.heap.size) := fun W' hW => h W' (fun k hk hlt => hW k ⟨hk, hlt⟩ hlt)
theorem step (h : Foot P W ok) (hm : ∀ k, ok k → k < W.heap.size → W1.heap[k]? = W.heap[k]?) : Foot P W1 ok := fun W' hW => h W' (fun k hk hlt => (hW k hk (heap_lt (hm k hk hlt) hlt)).trans (hm k hk hlt))
theorem imp (h : Foot P W ok) (hi : ∀ W', P W' → Q W') : Foot Q W ok := fun W' hW => hi W' (h W' hW)
/-- Moved, and still elder than what is new since W. -/
theorem old (h : Foot P W ok) (hb : Below W.heap.size W W1) : Foot P W1 (fun k => ok k ∧ k < W.heap.size) := (h.bound).step (fun k _ hlt => hb.block k hlt)
end Foot
namespace Kd
/-- A row that is only read: what it leads to lies in ok. -/
def F {α : Type} (d : Kd α) (W : World) (ok : Nat → Prop) (A : Option Addr) (n : Nat) (xs : List α) : Prop := Foot (fun W => d.C W A n xs) W ok
/-- An element's cells: what they lead to lies in ok. -/
def FK {α : Type} (d : Kd α) (W : World) (ok : Nat → Prop) (x : α) (c : List Value) : Prop := Foot (fun W => d.K W x c) W ok
section
variable {α β : Type} {d : Kd α} {e base n n' cc g N : Nat} {ok ok' okp S : Nat → Prop} {w w0 w1 W W1 : World} {A A' : Option Addr} {u v v1 : Value} {xs : List α} {xs' : List β} {d' : Kd β} {x : α} {c : List Value}
/-- A block that is emptied reads no more. -/
theorem emptied (W : World) (g : Nat) : ∃ W' : World, (∀ k, k ≠ g → W'.heap[k]? = W.heap[k]?) ∧ ∀ a : Addr, a.block = g → W'.cell? a = none := by
  refine ⟨{ W with heap := W.heap.setIfInBounds g (.cells #[] 0) }, fun k hk => by simp [Ne.symm hk], fun a ha => ?_⟩
  subst ha
  by_cases hlt : a.block < W.heap.size
  · simp [World.cell?, hlt]
  · simp [World.cell?, hlt]
end
end Kd
end Go.Proofs.YtbhdehkdnenigaaW.PrintWords

/-! ### 47. N: a row of the call's own whose elements share (what they lead to is only read) -/
namespace Go.Proofs.YtbhdehkdnenigaaW.PrintWords
open Go.RowKit
namespace Kd
section
variable {α : Type} {d : Kd α} {e base n cc g : Nat} {ok ok' okp S : Nat → Prop} {w w1 W W1 : World} {A : Option Addr} {u v v1 : Value} {xs : List α} {x : α} {c : List Value}
/-- A row of elements (type e) of the call's own; what the elements lead to is only read, and is not this row. -/
def N {α : Type} (d : Kd α) (e : Nat) (w : World) (base : Nat) (ok : Nat → Prop) (v : Value) (xs : List α) : Prop :=
  (∀ k, v.ownBlock = some k → ok k) ∧ ∃ rows : List (List Value), rows.length = xs.length ∧ (raw d.sz).R e w base (fun k => some k = v.ownBlock) v rows ∧ ∀ (j : Nat) (x : α) (c : List Value), xs[j]? = some x → rows[j]? = some c → FK d w (fun k => ok k ∧ some k ≠ v.ownBlock) x c
end
end Kd
end Go.Proofs.YtbhdehkdnenigaaW.PrintWords

/-! ### 48. N's events: append, a whole row appended, zeros appended, literals, make, stores, cuts, an element taken out -/
namespace Go.Proofs.YtbhdehkdnenigaaW.PrintWords
open Go.RowKit
namespace Kd
section
variable {α : Type} {d : Kd α} {e base n cap g : Nat} {ok ok' okp : Nat → Prop} {w w1 W : World} {v v1 : Value} {xs ys : List α}
end
section
variable {P : Program} {ops : Array Oper} {rest : List Oper} {o : Oper} {a : Act} {Q : Exit → Act → World → Prop} {Kc : Act → World → Prop} {α : Type}
end
end Kd
end Go.Proofs.YtbhdehkdnenigaaW.PrintWords

-- PRINTED WORDS (module Derived/Print/More.lean): go-gate-2's additions: an AI agent of Go's test side, Tue Nov 17 2026; no person has read it. Lean checks it.
namespace Go.Proofs.YtbhdehkdnenigaaW.PrintMore
open Go.RowKit Go.Proofs.YtbhdehkdnenigaaW.PrintWords
namespace Kd
open Go.Proofs.YtbhdehkdnenigaaW.PrintWords.Kd
end Kd

namespace Kd
open Go.Proofs.YtbhdehkdnenigaaW.PrintWords.Kd
section
variable {α : Type} {d : Kd α} {e base g N : Nat} {ok : Nat → Prop} {W w1 : World} {u v : Value} {xs : List α}
end
end Kd
/-- 'max' and 'min' of two whole numbers. -/
theorem max2_int (k k' : IntKind) (x y : Int) : Builtin.max2 (.int k x) (.int k' y) = pure (.int k (if x < y then y else x)) := by simp only [Builtin.max2, gt_iff_lt]
theorem min2_int (k k' : IntKind) (x y : Int) : Builtin.min2 (.int k x) (.int k' y) = pure (.int k (if y < x then y else x)) := by simp only [Builtin.min2]
theorem max_two (ats : Array TypeId) (ty : TypeId) (a b : Value) : Builtin.max_ ats ty #[a, b] = (Builtin.max2 a b >>= fun s => pure s) := by simp only [Builtin.max_, List.foldlM_cons, List.foldlM_nil]
theorem min_two (ats : Array TypeId) (ty : TypeId) (a b : Value) : Builtin.min_ ats ty #[a, b] = (Builtin.min2 a b >>= fun s => pure s) := by simp only [Builtin.min_, List.foldlM_cons, List.foldlM_nil]
theorem max_three (ats : Array TypeId) (ty : TypeId) (a b c : Value) : Builtin.max_ ats ty #[a, b, c] = (Builtin.max2 a b >>= fun s => Builtin.max2 s c >>= fun s => pure s) := by simp only [Builtin.max_, List.foldlM_cons, List.foldlM_nil]
theorem min_three (ats : Array TypeId) (ty : TypeId) (a b c : Value) : Builtin.min_ ats ty #[a, b, c] = (Builtin.min2 a b >>= fun s => Builtin.min2 s c >>= fun s => pure s) := by simp only [Builtin.min_, List.foldlM_cons, List.foldlM_nil]
theorem max_four (ats : Array TypeId) (ty : TypeId) (a b c d : Value) : Builtin.max_ ats ty #[a, b, c, d] = (Builtin.max2 a b >>= fun s => Builtin.max2 s c >>= fun s => Builtin.max2 s d >>= fun s => pure s) := by simp only [Builtin.max_, List.foldlM_cons, List.foldlM_nil]
theorem min_four (ats : Array TypeId) (ty : TypeId) (a b c d : Value) : Builtin.min_ ats ty #[a, b, c, d] = (Builtin.min2 a b >>= fun s => Builtin.min2 s c >>= fun s => Builtin.min2 s d >>= fun s => pure s) := by simp only [Builtin.min_, List.foldlM_cons, List.foldlM_nil]
end Go.Proofs.YtbhdehkdnenigaaW.PrintMore
namespace Go.Proofs.YtbhdehkdnenigaaW.PrintWords
open Go.RowKit
section
variable {P : Program} {ops : Array Oper} {rest : List Oper} {o : Oper} {a : Act} {Q : Exit → Act → World → Prop} {W : World}
/-- The operation is a call of this function (a cheap look ahead of a dear step). -/
theorem gate_callee {f : FuncId} {as_ : Array Operand} {ts : Array TypeId} (_ho : o.op = .call { callee := .value (.func f), args := as_, argTypes := ts }) (h : wpList P ops Q (o :: rest) a W) : wpList P ops Q (o :: rest) a W := h
/-- The operation is a builtin over these places. -/
theorem gate_builtin {b : Builtin} {xs : Array Operand} {ts : Array TypeId} (_ho : o.op = .call { callee := .builtin b, args := xs, argTypes := ts }) (h : wpList P ops Q (o :: rest) a W) : wpList P ops Q (o :: rest) a W := h
end
namespace Kd
section
variable {α : Type} {d : Kd α} {e base : Nat} {ok : Nat → Prop} {W w1 : World} {v : Value} {xs : List α}
end
section
variable {α : Type} {d : Kd α} {e base g n cap : Nat} {ok oki okp : Nat → Prop} {W : World} {xs : List α} {i : Int} {c : List Value}
end
section
variable {α : Type} {d : Kd α} {e base b b' g N : Nat} {ok ok1 : Nat → Prop} {W W2 w1 : World} {u v : Value} {xs ys : List α} {S : Nat → Prop}
end
end Kd
end Go.Proofs.YtbhdehkdnenigaaW.PrintWords
namespace Go.Proofs.YtbhdehkdnenigaaW.PrintWords
open Go.RowKit
namespace Kd
section
variable {α β : Type} {d : Kd α} {e base base' n m c g N' lo hi : Nat} {ok ok' S : Nat → Prop} {w W w1 : World} {A : Option Addr} {ad : Addr} {u v v1 : Value} {xs : List α}
end
end Kd
end Go.Proofs.YtbhdehkdnenigaaW.PrintWords

set_option linter.unusedVariables false
set_option linter.unusedSimpArgs false
namespace Go.Proofs.Ytbhdehkdnenigaa
open Go.RowKit Go.Proofs.YtbhdehkdnenigaaW.PrintWords Go.Proofs.YtbhdehkdnenigaaW.PrintLast Go.Proofs.YtbhdehkdnenigaaW.PrintMore
def fG.T6 : Bool × List (List Nat × List Nat) := (true, [([], []), ([], []), ([1], [1]), ([0, 2], [0, 2]), ([], []), ([4], [4]), ([3, 5, 3], [3, 5]), ([], []), ([7], [7]), ([8], [8]), ([6, 9], [6, 9]), ([0, 1, 2, 3, 4, 5, 6, 7, 8, 9, 10], []), ([11, 10, 6, 0, 1, 2, 3, 4, 5, 6, 7, 8, 9, 10], [10, 11])])
def fG.B6 : List Nat := [0, 0, 2, 7, 0, 16, 63, 0, 128, 384, 1023, 2047, 4095]
theorem fG.tab6 : rtab .any (opsOf Try.f23 6) = fG.T6 := by kernel_rfl
theorem fG.bits6 : waitsOk fG.T6.2 fG.B6 = true := by kernel_rfl
structure FullRel (w wr : World) (nx : Int) (l : List Vn) (A : Option Addr) (c k : Nat) (A1 : Option Addr) (c1 : Nat) : Prop where
  hb : wr.heap[w.heap.size]? = some (.cells #[.int .i64 nx, .slice A l.length c] 24 (0, 0))
  hr : wr.heap[w.heap.size + 1]? = some (.cells #[.int .i64 0, .slice none 0 0] 24 (0, 0))
  hc : wr.heap[w.heap.size + 1 + 1]? = some (.cells #[.int .i64 nx, .slice A1 k c1] 24 (0, 0))
  hs : Kd.S kVm 48 wr (w.heap.size + 3) (fun k => w.heap.size + 3 ≤ k) (.slice A1 k c1) ((l.take k).map mkV)
  below : Below w.heap.size w wr
  size : w.heap.size + 3 ≤ wr.heap.size
theorem heap_alloc_old (w : World) (o : Obj) {k : Nat} (h : k < w.heap.size) : (w.alloc o).heap[k]? = w.heap[k]? := (below_alloc (Below.refl _ _) o).block k h
theorem full_start (w : World) (nx : Int) (l : List Vn) (A : Option Addr) (c : Nat) :
    FullRel w (((w.alloc (.cells #[.int .i64 nx, .slice A l.length c] 24)).alloc (.cells #[.int .i64 0, .slice none 0 0] 24)).alloc (.cells #[.int .i64 nx, .slice none 0 0] 24)) nx l A c 0 none 0 := by
  refine ⟨?_, ?_, ?_, Kd.S_nil _ _ _ _ _, below_alloc (below_alloc (below_alloc (Below.refl _ _) _) _) _, by simp [go_sem]⟩
  · rw [heap_alloc_old _ _ (by simp [go_sem]), heap_alloc_old _ _ (by simp [go_sem])]
    exact blk_new w _
  · rw [heap_alloc_old _ _ (by simp [go_sem])]
    have h := blk_new (w.alloc (.cells #[.int .i64 nx, .slice A l.length c] 24)) (.cells #[.int .i64 0, .slice none 0 0] 24 (0, 0))
    rwa [show (w.alloc (.cells #[.int .i64 nx, .slice A l.length c] 24)).heap.size = w.heap.size + 1 by simp [go_sem]] at h
  · have h := blk_new ((w.alloc (.cells #[.int .i64 nx, .slice A l.length c] 24)).alloc (.cells #[.int .i64 0, .slice none 0 0] 24)) (.cells #[.int .i64 nx, .slice none 0 0] 24 (0, 0))
    rwa [show ((w.alloc (.cells #[.int .i64 nx, .slice A l.length c] 24)).alloc (.cells #[.int .i64 0, .slice none 0 0] 24)).heap.size = w.heap.size + 2 by simp [go_sem]] at h
theorem alloc_sz (w : World) (o : Obj) : (w.alloc o).heap.size = w.heap.size + 1 := by simp [go_sem]
theorem empty2 (w : World) (o : Obj) (e : TypeId) : kPr.R e ((w.alloc o).alloc (.cells #[] e)) w.heap.size (fun _ => True) (.slice (some ⟨w.heap.size + 1, 0, none⟩) 0 0) [] := by
  have h := kPr_R_empty (w.alloc o) e
  rw [alloc_sz] at h
  exact Kd.R_lower h (Nat.le_succ _)
theorem markB2 (w : World) (o : Obj) (b : Obj) : ((w.alloc o).alloc b).heap[w.heap.size + 1]? = some b := by
  have h := blk_new (w.alloc o) b
  rwa [alloc_sz] at h
theorem mark_C {w : World} {g t : Nat} (h : w.heap[g]? = some (.cells #[.string ⟨#[109, 97, 114, 107]⟩, .string ⟨#[]⟩] t (0, 0))) : kPr.C w (some ⟨g, 0, none⟩) 1 [pMark] := by
  refine ⟨rfl, by decide, fun _ => ⟨_, rfl, fun j p hj => ?_⟩⟩
  cases j with
  | zero =>
    have hp : p = pMark := by simpa using hj.symm
    subst hp
    refine ⟨[.string ⟨#[109, 97, 114, 107]⟩, .string ⟨#[]⟩], rfl, kPr_mk w pMark, fun i u hu => ?_⟩
    have e : (⟨g, 0, none⟩ : Addr).add (0 * kPr.sz + i) = ⟨g, i, none⟩ := by
      rw [add_at]
      congr 1
      omega
    show w.cell? ((⟨g, 0, none⟩ : Addr).add (0 * kPr.sz + i)) = _
    rw [e]
    match i, hu with
    | 0, hu => cases hu; exact blk_cell h 0
    | 1, hu => cases hu; exact blk_cell h 1
    | i + 2, hu => cases hu
  | succ j => simp at hj
theorem blk_below' {B : Nat} {w w1 : World} {g : Nat} {o : Obj} (h : w.heap[g]? = some o) (hb : Below B w w1) (hg : g < B) : w1.heap[g]? = some o := (hb.block g hg).trans h
set_option maxRecDepth 100000 in
set_option maxHeartbeats 4000000 in
theorem full_any (l : List Vn) (nx : Int) (A : Option Addr) (c : Nat) (w : World) (hC : kVn.C w A l.length l) (hl : l.length ≤ c) (hlen : (l.length + 1) * 72 ≤ 140737488355328) (hx : ∀ x ∈ l, (x.pairs.length + 1) * 32 ≤ 140737488355328) :
    Calls Try.prog 23 #[.agg #[.int .i64 nx, .slice A l.length c]] w fun e w' => ∃ A' c', e = .returned (.agg #[.int .i64 nx, .slice A' l.length c']) ∧ Owned w' w.heap.size (fun k => w.heap.size ≤ k) A' c' l ∧ Below w.heap.size w w' := by
  have HC := Lib.hid hC
  have HX := Lib.hid hx
  have hml := hC.2.1
  clear hC hx
  go_enter Try.func23, Try.ntmps23
  go_wp2
  go_loopw [4] (fun i wr => ∃ (k : Nat) (A1 : Option Addr) (c1 : Nat), k ≤ l.length ∧ i = .int .i64 k ∧ Hid (FullRel w wr nx l A c k A1 c1)) (fun i _ => l.length - (intOf i).toNat)
  case atStart => exact ⟨0, none, 0, Nat.zero_le _, rfl, Lib.hid (full_start w nx l A c)⟩
  case round =>
    obtain ⟨k, A1, c1, hk, rfl, HF⟩ := hrel
    have m1 := blk_cell HF.out.hb 1
    by_cases hlt : k < l.length
    · obtain ⟨ad, A4, c4, rfl, h1, h2, h3, h4, h5, h6, h7⟩ := kVn_rd (Kd.C_below HC.out HF.out.below) k hlt
      have hp32 := HX.out _ (rdV_mem hlt)
      have hnext : (l.take (k + 1)).map mkV = (l.take k).map mkV ++ [mkV (rdV l k)] := by rw [takeMV l k hlt, rdV_at hlt]
      generalize rdV l k = x at *
      have HN := Lib.hid hnext
      have HR := Lib.hid h7
      clear hnext h7
      go_wp2
      generalize hwx : World.alloc wr _ = wx
      have hbk : wx.heap[wr.heap.size]? = some (.cells #[.string x.key, .int .i64 x.seq, .bool x.gone, .string x.data, .slice A4 x.pairs.length c4] 48 (0, 0)) := by rw [← hwx]; exact blk_new wr _
      have hbx : Below wr.heap.size wr wx := by rw [← hwx]; exact below_alloc (Below.refl _ _) _
      have hsx : wr.heap.size + 1 = wx.heap.size := by rw [← hwx]; simp [go_sem]
      clear hwx
      obtain ⟨i1, hi1, _⟩ := info_parts pr_info
      have HI1 := Lib.hid hi1
      have HK8 := Lib.hid (blk_drew hbk)
      have HR8 := Lib.hid (Kd.C_drew (Kd.C_below HR.out hbx))
      have HX8 := Lib.hid (below_drew1 hbx)
      clear hbk hbx hi1
      refine start_ (n := 13) (S := fun w' => w'.cell? ⟨wr.heap.size, 0, none⟩ = some (.string x.key) ∧ w'.cell? ⟨wr.heap.size, 1, none⟩ = some (.int .i64 x.seq) ∧ w'.cell? ⟨wr.heap.size, 2, none⟩ = some (.bool x.gone) ∧ w'.cell? ⟨wr.heap.size, 3, none⟩ = some (.string x.data) ∧ w'.cell? ⟨wr.heap.size, 4, none⟩ = some (.slice A4 x.pairs.length c4)) (ds := [12]) #[false, false, false, false, false, false, false, false, false, false, false, false, false] (by kernel_rfl) rfl rfl ⟨(box5 (HK8.out)).1, (box5 (HK8.out)).2.1, (box5 (HK8.out)).2.2.1, (box5 (HK8.out)).2.2.2.1, (box5 (HK8.out)).2.2.2.2⟩ (fun hHeld => ?_)
      refine with_tabW fG.tab6 fG.bits6 (fun HT_ HW_ => ?_)
      generalize wx.drew = w8 at HK8 HR8 HX8 hHeld ⊢
      refine pure_ (i := 1) (N := some 23) (v := ?_) (a' := ?_) #[false, true, false, false, false, false, false, false, false, false, false, false, false] rfl rfl (any_of HT_.out (by kernel_rfl)) (fun _ _ _ h => h) (Or.inl ⟨by rfl, ?_⟩) ?_ ?_
      rotate_left
      · intro w'
        go_simp
        with_reducible rfl
      rotate_left
      · simp only [Act.put, List.setIfInBounds_toArray, List.set_cons_zero, List.set_cons_succ, i64_w, i32_w]
        rfl
      refine pure_ (i := 4) (N := some 26) (v := ?_) (a' := ?_) #[false, true, false, false, true, false, false, false, false, false, false, false, false] rfl rfl (any_of HT_.out (by kernel_rfl)) (fun _ _ _ h => h) (Or.inl ⟨by rfl, ?_⟩) ?_ ?_
      rotate_left
      · intro w'
        go_simp
        with_reducible rfl
      rotate_left
      · simp only [Act.put, List.setIfInBounds_toArray, List.set_cons_zero, List.set_cons_succ, i64_w, i32_w]
        rfl
      refine pure_ (i := 7) (N := some 29) (v := ?_) (a' := ?_) #[false, true, false, false, true, false, false, true, false, false, false, false, false] rfl rfl (any_of HT_.out (by kernel_rfl)) (fun _ _ _ h => h) (Or.inl ⟨by rfl, ?_⟩) ?_ ?_
      rotate_left
      · intro w'
        go_simp
        with_reducible rfl
      rotate_left
      · simp only [Act.put, List.setIfInBounds_toArray, List.set_cons_zero, List.set_cons_succ, i64_w, i32_w]
        rfl
      refine take_ (i := 2) (N := some 24) (v := ?_) (a' := ?_) #[false, true, true, false, true, false, false, true, false, false, false, false, false] rfl rfl (take_ofW HT_.out HW_.out (by kernel_rfl)) (fun _ _ _ h => h) (Or.inl ⟨by rfl, ?_⟩) hHeld ?_ ?_
      rotate_left
      · rintro w' ⟨s0, s1, s2, s3, s4⟩
        go_simp
        with_reducible rfl
      rotate_left
      · simp only [Act.put, List.setIfInBounds_toArray, List.set_cons_zero, List.set_cons_succ, i64_w, i32_w]
        rfl
      refine take_ (i := 8) (N := some 30) (v := ?_) (a' := ?_) #[false, true, true, false, true, false, false, true, true, false, false, false, false] rfl rfl (take_ofW HT_.out HW_.out (by kernel_rfl)) (fun _ _ _ h => h) (Or.inl ⟨by rfl, ?_⟩) hHeld ?_ ?_
      rotate_left
      · rintro w' ⟨s0, s1, s2, s3, s4⟩
        go_simp
        with_reducible rfl
      rotate_left
      · simp only [Act.put, List.setIfInBounds_toArray, List.set_cons_zero, List.set_cons_succ, i64_w, i32_w]
        rfl
      refine pure_ (i := 9) (N := some 31) (v := ?_) (a' := ?_) #[false, true, true, false, true, false, false, true, true, true, false, false, false] rfl rfl (any_of HT_.out (by kernel_rfl)) (fun _ _ _ h => h) (Or.inl ⟨by rfl, ?_⟩) ?_ ?_
      rotate_left
      · intro w'
        go_simp
        with_reducible rfl
      rotate_left
      · simp only [Act.put, List.setIfInBounds_toArray, List.set_cons_zero, List.set_cons_succ, i64_w, i32_w]
        rfl
      refine join_ (σ := Value × Value × Value) 4 #[true, true, true, true, true, true, false, true, true, true, false, false, false] (fun s => [(22, s.1), (25, s.2.1), (27, s.2.2)]) (fun s w' => (w'.cell? ⟨wr.heap.size, 0, none⟩ = some (.string x.key) ∧ w'.cell? ⟨wr.heap.size, 1, none⟩ = some (.int .i64 x.seq) ∧ w'.cell? ⟨wr.heap.size, 2, none⟩ = some (.bool x.gone) ∧ w'.cell? ⟨wr.heap.size, 3, none⟩ = some (.string x.data) ∧ w'.cell? ⟨wr.heap.size, 4, none⟩ = some (.slice A4 x.pairs.length c4)) ∧ kPr.R 60 w' w8.heap.size (fun _ => True) s.2.1 x.pairs ∧ Below w8.heap.size w8 w' ∧ ∃ m : Nat, s.2.2 = .slice (some ⟨m, 0, none⟩) 1 1 ∧ kPr.C w' (some ⟨m, 0, none⟩) 1 [pMark]) ?_ ?_
      rotate_left
      · intro hCont
        refine two_ (i := 0) (j := 5) (Ni := some 22) (Nj := some 27) #[true, true, true, false, true, false, false, true, true, true, false, false, false] #[false, true, true, false, true, true, false, true, true, true, false, false, false] rfl rfl rfl rfl (two_of HT_.out (by kernel_rfl)) (by decide) (by decide) (fun K hK => ?_) (fun K hK => ?_)
        · skip
          refine value_ (w1 := ?_) (v := ?_) (by rfl) rfl ?_ ?_
          rotate_left 2
          · go_simp
            constructor
            · rfl
            · rfl
          refine hK.out _ _ ⟨cel_new (hHeld.1) _, cel_new (hHeld.2.1) _, cel_new (hHeld.2.2.1) _, cel_new (hHeld.2.2.2.1) _, cel_new (hHeld.2.2.2.2) _⟩ (fun hHeld => ?_)
          clear hK K
          refine norm_ (a' := ?_) ?_ ?_
          rotate_left
          · show Act.put _ (some 22) _ = _
            simp only [Act.put, List.setIfInBounds_toArray, List.set_cons_zero, List.set_cons_succ, i64_w, i32_w]
            rfl
          refine two_ (i := 3) (j := 5) (Ni := some 25) (Nj := some 27) #[true, true, true, true, true, false, false, true, true, true, false, false, false] #[true, true, true, false, true, true, false, true, true, true, false, false, false] rfl rfl rfl rfl (two_of HT_.out (by kernel_rfl)) (by decide) (by decide) (fun K hK => ?_) (fun K hK => ?_)
          · skip
            refine Kd.R_append_rows_step kPr (Rr := kPr.K _) (w0 := w8) w8.heap.size (by rfl) (.tmp 22) (.tmp 24) 46 60 _ 32 rfl Try.underlying46 pr_info rfl (by decide) (by decide) (.slice (some ⟨w8.heap.size, 0, none⟩) 0 0) [] x.pairs A4 x.pairs.length c4 (fun _ => True) (fun _ => False) (by rfl) (by rfl) (kPr_R_empty w8 _) (Kd.C_below HR8.out (below_alloc (Below.refl _ _) _)) (fun _ _ h => kPr_KM _ _ _ _ _ h) (fun _ h => h.elim) (fun _ _ => trivial) (below_alloc (Below.refl _ _) _) (below_alloc (Below.refl _ _) _).size (by show (0 + x.pairs.length) * 32 ≤ _; omega) ?_
            intro v3 w3 ho hb3 hg hat
            rw [List.nil_append] at ho
            have HO3 := Lib.hid ho
            have HB3 := Lib.hid hb3
            clear ho hg hat
            refine hK.out _ _ ⟨pw_cell_below hb3 ((box5 (HK8.out)).1), pw_cell_below hb3 ((box5 (HK8.out)).2.1), pw_cell_below hb3 ((box5 (HK8.out)).2.2.1), pw_cell_below hb3 ((box5 (HK8.out)).2.2.2.1), pw_cell_below hb3 ((box5 (HK8.out)).2.2.2.2)⟩ (fun hHeld => ?_)
            clear hK K
            refine norm_ (a' := ?_) ?_ ?_
            rotate_left
            · show Act.put _ (some 25) _ = _
              simp only [Act.put, List.setIfInBounds_toArray, List.set_cons_zero, List.set_cons_succ, i64_w, i32_w]
              rfl
            refine one_ (i := 5) (N := some 27) #[true, true, true, true, true, true, false, true, true, true, false, false, false] rfl rfl (one_of HT_.out (by kernel_rfl)) (by decide) (fun K hK => ?_)
            refine value_ (w1 := ?_) (v := ?_) (by rfl) rfl ?_ ?_
            rotate_left 2
            · go_simp
              constructor
              · rfl
              · rfl
            refine hK.out _ _ ⟨cel_new (hHeld.1) _, cel_new (hHeld.2.1) _, cel_new (hHeld.2.2.1) _, cel_new (hHeld.2.2.2.1) _, cel_new (hHeld.2.2.2.2) _⟩ (fun hHeld => ?_)
            clear hK K
            refine norm_ (a' := ?_) ?_ ?_
            rotate_left
            · show Act.put _ (some 27) _ = _
              simp only [Act.put, List.setIfInBounds_toArray, List.set_cons_zero, List.set_cons_succ, i64_w, i32_w]
              rfl
            exact norm_ (by simp only [putAll, Act.put, List.setIfInBounds_toArray, List.set_cons_zero, List.set_cons_succ]) (hCont (.slice (some ⟨w8.heap.size, 0, none⟩) 0 0, v3, .slice (some ⟨w3.heap.size, 0, none⟩) 1 1) _ ⟨hHeld, Kd.R_alloc HO3.out _, below_alloc HB3.out _, _, rfl, mark_C (blk_new w3 _)⟩)
          · skip
            refine value_ (w1 := ?_) (v := ?_) (by rfl) rfl ?_ ?_
            rotate_left 2
            · go_simp
              constructor
              · rfl
              · rfl
            refine hK.out _ _ ⟨cel_new (hHeld.1) _, cel_new (hHeld.2.1) _, cel_new (hHeld.2.2.1) _, cel_new (hHeld.2.2.2.1) _, cel_new (hHeld.2.2.2.2) _⟩ (fun hHeld => ?_)
            clear hK K
            refine norm_ (a' := ?_) ?_ ?_
            rotate_left
            · show Act.put _ (some 27) _ = _
              simp only [Act.put, List.setIfInBounds_toArray, List.set_cons_zero, List.set_cons_succ, i64_w, i32_w]
              rfl
            refine one_ (i := 3) (N := some 25) #[true, true, true, true, true, true, false, true, true, true, false, false, false] rfl rfl (one_of HT_.out (by kernel_rfl)) (by decide) (fun K hK => ?_)
            refine Kd.R_append_rows_step kPr (Rr := kPr.K _) (w0 := w8) w8.heap.size (by rfl) (.tmp 22) (.tmp 24) 46 60 _ 32 rfl Try.underlying46 pr_info rfl (by decide) (by decide) (.slice (some ⟨w8.heap.size, 0, none⟩) 0 0) [] x.pairs A4 x.pairs.length c4 (fun _ => True) (fun _ => False) (by rfl) (by rfl) (Kd.R_alloc (kPr_R_empty w8 _) _) (Kd.C_below HR8.out (below_alloc (below_alloc (Below.refl _ _) _) _)) (fun _ _ h => kPr_KM _ _ _ _ _ h) (fun _ h => h.elim) (fun _ _ => trivial) (below_alloc (below_alloc (Below.refl _ _) _) _) (below_alloc (below_alloc (Below.refl _ _) _) _).size (by show (0 + x.pairs.length) * 32 ≤ _; omega) ?_
            intro v3 w3 ho hb3 hg hat
            rw [List.nil_append] at ho
            have HO3 := Lib.hid ho
            have HB3 := Lib.hid hb3
            have HM3 := Lib.hid (blk_grown (g := (w8.heap.size + 1)) (o := .cells #[.string ⟨#[109, 97, 114, 107]⟩, .string ⟨#[]⟩] 60 (0, 0)) (markB2 w8 _ _) hg (by simp [Value.ownBlock]))
            clear ho hg hat
            refine hK.out _ _ ⟨pw_cell_below hb3 ((box5 (HK8.out)).1), pw_cell_below hb3 ((box5 (HK8.out)).2.1), pw_cell_below hb3 ((box5 (HK8.out)).2.2.1), pw_cell_below hb3 ((box5 (HK8.out)).2.2.2.1), pw_cell_below hb3 ((box5 (HK8.out)).2.2.2.2)⟩ (fun hHeld => ?_)
            clear hK K
            refine norm_ (a' := ?_) ?_ ?_
            rotate_left
            · show Act.put _ (some 25) _ = _
              simp only [Act.put, List.setIfInBounds_toArray, List.set_cons_zero, List.set_cons_succ, i64_w, i32_w]
              rfl
            exact norm_ (by simp only [putAll, Act.put, List.setIfInBounds_toArray, List.set_cons_zero, List.set_cons_succ]) (hCont (.slice (some ⟨w8.heap.size, 0, none⟩) 0 0, v3, .slice (some ⟨w8.heap.size + 1, 0, none⟩) 1 1) _ ⟨hHeld, HO3.out, HB3.out, _, rfl, mark_C HM3.out⟩)
        · skip
          refine value_ (w1 := ?_) (v := ?_) (by rfl) rfl ?_ ?_
          rotate_left 2
          · go_simp
            constructor
            · rfl
            · rfl
          refine hK.out _ _ ⟨cel_new (hHeld.1) _, cel_new (hHeld.2.1) _, cel_new (hHeld.2.2.1) _, cel_new (hHeld.2.2.2.1) _, cel_new (hHeld.2.2.2.2) _⟩ (fun hHeld => ?_)
          clear hK K
          refine norm_ (a' := ?_) ?_ ?_
          rotate_left
          · show Act.put _ (some 27) _ = _
            simp only [Act.put, List.setIfInBounds_toArray, List.set_cons_zero, List.set_cons_succ, i64_w, i32_w]
            rfl
          refine one_ (i := 0) (N := some 22) #[true, true, true, false, true, true, false, true, true, true, false, false, false] rfl rfl (one_of HT_.out (by kernel_rfl)) (by decide) (fun K hK => ?_)
          refine value_ (w1 := ?_) (v := ?_) (by rfl) rfl ?_ ?_
          rotate_left 2
          · go_simp
            constructor
            · rfl
            · rfl
          refine hK.out _ _ ⟨cel_new (hHeld.1) _, cel_new (hHeld.2.1) _, cel_new (hHeld.2.2.1) _, cel_new (hHeld.2.2.2.1) _, cel_new (hHeld.2.2.2.2) _⟩ (fun hHeld => ?_)
          clear hK K
          refine norm_ (a' := ?_) ?_ ?_
          rotate_left
          · show Act.put _ (some 22) _ = _
            simp only [Act.put, List.setIfInBounds_toArray, List.set_cons_zero, List.set_cons_succ, i64_w, i32_w]
            rfl
          refine one_ (i := 3) (N := some 25) #[true, true, true, true, true, true, false, true, true, true, false, false, false] rfl rfl (one_of HT_.out (by kernel_rfl)) (by decide) (fun K hK => ?_)
          refine Kd.R_append_rows_step kPr (Rr := kPr.K _) (w0 := w8) w8.heap.size (by rfl) (.tmp 22) (.tmp 24) 46 60 _ 32 rfl Try.underlying46 pr_info rfl (by decide) (by decide) (.slice (some ⟨(w8.heap.size + 1), 0, none⟩) 0 0) [] x.pairs A4 x.pairs.length c4 (fun _ => True) (fun _ => False) (by rfl) (by rfl) (empty2 w8 _ _) (Kd.C_below HR8.out (below_alloc (below_alloc (Below.refl _ _) _) _)) (fun _ _ h => kPr_KM _ _ _ _ _ h) (fun _ h => h.elim) (fun _ _ => trivial) (below_alloc (below_alloc (Below.refl _ _) _) _) (below_alloc (below_alloc (Below.refl _ _) _) _).size (by show (0 + x.pairs.length) * 32 ≤ _; omega) ?_
          intro v3 w3 ho hb3 hg hat
          rw [List.nil_append] at ho
          have HO3 := Lib.hid ho
          have HB3 := Lib.hid hb3
          have HM3 := Lib.hid (blk_grown (g := w8.heap.size) (o := .cells #[.string ⟨#[109, 97, 114, 107]⟩, .string ⟨#[]⟩] 60 (0, 0)) (blk_alloc (blk_new w8 _) _) hg (by simp [Value.ownBlock]))
          clear ho hg hat
          refine hK.out _ _ ⟨pw_cell_below hb3 ((box5 (HK8.out)).1), pw_cell_below hb3 ((box5 (HK8.out)).2.1), pw_cell_below hb3 ((box5 (HK8.out)).2.2.1), pw_cell_below hb3 ((box5 (HK8.out)).2.2.2.1), pw_cell_below hb3 ((box5 (HK8.out)).2.2.2.2)⟩ (fun hHeld => ?_)
          clear hK K
          refine norm_ (a' := ?_) ?_ ?_
          rotate_left
          · show Act.put _ (some 25) _ = _
            simp only [Act.put, List.setIfInBounds_toArray, List.set_cons_zero, List.set_cons_succ, i64_w, i32_w]
            rfl
          exact norm_ (by simp only [putAll, Act.put, List.setIfInBounds_toArray, List.set_cons_zero, List.set_cons_succ]) (hCont (.slice (some ⟨w8.heap.size + 1, 0, none⟩) 0 0, v3, .slice (some ⟨w8.heap.size, 0, none⟩) 1 1) _ ⟨hHeld, HO3.out, HB3.out, _, rfl, mark_C HM3.out⟩)
      rintro ⟨s1, v3, s3⟩ w5 ⟨hHeld, ho5, hb5, m5, hs3, hm5⟩
      have hs3 : s3 = .slice (some ⟨m5, 0, none⟩) 1 1 := hs3
      subst hs3
      have HO5 := Lib.hid ho5
      have HB5 := Lib.hid hb5
      have HM5 := Lib.hid hm5
      clear ho5 hb5 hm5
      refine norm_ (a' := ?_) ?_ ?_
      rotate_left
      · simp only [putAll, Act.put, List.setIfInBounds_toArray, List.set_cons_zero, List.set_cons_succ]
        rfl
      refine one_ (i := 6) (N := some 28) #[true, true, true, true, true, true, true, true, true, true, false, false, false] rfl rfl (one_of HT_.out (by kernel_rfl)) (by decide) (fun K hK => ?_)
      refine Kd.R_append_rows_step kPr (Rr := kPr.K _) (w0 := w8) w8.heap.size (by rfl) (.tmp 25) (.tmp 27) 46 60 _ 32 rfl Try.underlying46 pr_info rfl (by decide) (by decide) v3 x.pairs [pMark] (some ⟨m5, 0, none⟩) 1 1 (fun _ => True) (fun _ => False) (by rfl) (by rfl) HO5.out HM5.out (fun _ _ h => kPr_KM _ _ _ _ _ h) (fun _ h => h.elim) (fun _ _ => trivial) HB5.out HB5.out.size (by omega) ?_
      intro v6 w9 ho9 hb9 hg hat
      obtain ⟨Am, cm, hv⟩ := Kd.R_slice ho9
      rw [show (x.pairs ++ [pMark]).length = x.pairs.length + 1 by simp] at hv
      subst hv
      have hroom := (Kd.R_reads' ho9).2.1
      have hcut := cut_to (P := Try.prog) 46 60 .i64 Try.underlying46 HI1.out Am (x.pairs.length + 1) cm (x.pairs.length : Int) (by omega) (by omega) hroom
      rw [Int.toNat_natCast] at hcut
      have HK9 := Lib.hid (blk_below HK8.out hb9)
      have z4 := blk_cell HK9.out 4
      have zf : ∀ o, w9.frozen? ⟨wr.heap.size, o, none⟩ = false := blk_frozen HK9.out
      have HO9 := Lib.hid ho9
      have HB9 := Lib.hid hb9
      clear ho9 hb9 hg hat hroom
      refine hK.out _ _ ⟨(box5 (HK9.out)).1, (box5 (HK9.out)).2.1, (box5 (HK9.out)).2.2.1, (box5 (HK9.out)).2.2.2.1, (box5 (HK9.out)).2.2.2.2⟩ (fun hHeld => ?_)
      clear hK K
      refine norm_ (a' := ?_) ?_ ?_
      rotate_left
      · show Act.put _ (some 28) _ = _
        simp only [Act.put, List.setIfInBounds_toArray, List.set_cons_zero, List.set_cons_succ, i64_w, i32_w]
        rfl
      refine pure_ (i := 10) (N := some 32) (v := ?_) (a' := ?_) #[true, true, true, true, true, true, true, true, true, true, true, false, false] rfl rfl (any_of HT_.out (by kernel_rfl)) (fun _ _ _ h => h) (Or.inl ⟨by rfl, ?_⟩) ?_ ?_
      rotate_left
      · intro w'
        go_simp
        with_reducible rfl
      rotate_left
      · simp only [Act.put, List.setIfInBounds_toArray, List.set_cons_zero, List.set_cons_succ, i64_w, i32_w]
        rfl
      refine pure_ (i := 11) (N := some 33) (v := ?_) (a' := ?_) #[true, true, true, true, true, true, true, true, true, true, true, true, false] rfl rfl (any_of HT_.out (by kernel_rfl)) (fun _ _ _ h => h) (Or.inl ⟨by rfl, ?_⟩) ?_ ?_
      rotate_left
      · intro w'
        go_simp
        with_reducible rfl
      rotate_left
      · simp only [Act.put, List.setIfInBounds_toArray, List.set_cons_zero, List.set_cons_succ, i64_w, i32_w]
        rfl
      refine last_ (i := 12) (N := none) #[true, true, true, true, true, true, true, true, true, true, true, true, true] rfl rfl (one_of HT_.out (by kernel_rfl)) (by decide) (fun K hK => ?_)
      refine skip_ (w1 := ?_) (by rfl) rfl ?_ ?_
      rotate_left
      · go_simp
        rfl
      refine hK.out _ _ ?_
      clear hK K
      refine done_ (done_of HT_.out (by kernel_rfl)) ?_
      clear z4 zf hcut
      generalize hw10 : World.setCell w9 ⟨wr.heap.size, 4, none⟩ _ = w10
      have hk10 : w10.heap[wr.heap.size]? = some (.cells #[.string x.key, .int .i64 x.seq, .bool x.gone, .string x.data, .slice Am x.pairs.length cm] 48 (0, 0)) := by rw [← hw10]; exact blk_put HK9.out 4 _ rfl
      have hs8 : wr.heap.size + 1 ≤ w8.heap.size := blk_lt HK8.out
      have hb10 : Below wr.heap.size wr w10 := by rw [← hw10]; exact (HX8.out.trans (HB9.out.mono (by omega))).setCell (Nat.le_refl _) _
      have ho10 : kPr.R 60 w10 w8.heap.size (fun k => w8.heap.size ≤ k) (.slice Am (x.pairs.length + 1) cm) (x.pairs ++ [pMark]) := by
        rw [← hw10]
        exact Kd.R_far (Kd.R_mono (Kd.R_bound HO9.out) (fun k hk => hk.2.1)) (fun k hk => by show k ≠ wr.heap.size; omega) _
      clear hw10 HK9 HK8 HO9 HB9 HX8 HR8
      have HB10 := Lib.hid hb10
      have HO10 := Lib.hid ho10
      have hc10 := blk_below HF.out.hc hb10
      obtain ⟨v0, v1, v2, v3', v4⟩ := box5 hk10
      have n1 := blk_cell hc10 1
      have HK10 := Lib.hid hk10
      have hsz := HF.out.size
      have HSn := Lib.hid (Kd.S_below (Kd.S_mono (Kd.S_bound HF.out.hs) (fun j hj => (⟨hj.1, Nat.not_le.2 hj.2.2.1⟩ : w.heap.size + 3 ≤ j ∧ ¬ wr.heap.size ≤ j))) hb10)
      have HL := Lib.hid (show ((l.take k).map mkV).length = k by rw [List.length_map, List.length_take]; omega)
      have HC10 := Lib.hid hc10
      clear hk10 hb10 ho10 hc10
      go_wp2_with ((with_reducible refine gate_builtin (b := .append) (xs := #[.tmp 35, .tmp 37]) rfl ?_); at_builtin; refine Kd.S_append kVm (w0 := wr) (w.heap.size + 3) rfl (.tmp 35) (.tmp 37) 22 48 _ 72 rfl Try.underlying22 vn_info rfl (by decide) (by decide) (.slice A1 k c1) ((l.take k).map mkV) (mkV x) [.string x.key, .int .i64 x.seq, .bool x.gone, .string x.data, .slice Am x.pairs.length cm] (fun j => w.heap.size + 3 ≤ j) (fun j => wr.heap.size ≤ j) rfl rfl ?aP ?aK ?aF HSn.out ?aB ?aS ?aL ?_; (case aP => exact mkV_mk _ _ _ (Kd.R_lower (Kd.R_mono HO10.out (fun j hj => by omega)) (by omega))); (case aK => exact fun j hj => ⟨by omega, fun he => by have := Kd.S_lt HF.out.hs j he.symm; omega⟩); (case aF => exact fun j hj => by have := HB10.out.size; omega); (case aB => exact HB10.out.mono (by omega)); (case aS => have := HB10.out.size; omega); (case aL => rw [HL.out]; omega); intro v11 w11 ho hb hg hat; obtain ⟨A11, c11, hv⟩ := Kd.S_slice ho; rw [show ((l.take k).map mkV ++ [mkV x]).length = k + 1 by rw [List.length_append, HL.out]; rfl] at hv; subst hv; have hc11 := blk_grown HC10.out hg (fun he => by have := Kd.S_base HF.out.hs _ he.symm; omega); have HO11 := Lib.hid ho; have HB11 := Lib.hid hb; have HC11 := Lib.hid hc11; have y1 := blk_cell hc11 1; have yf : ∀ o, w11.frozen? ⟨w.heap.size + 1 + 1, o, none⟩ = false := blk_frozen hc11; clear ho hb hg hat hc11)
      have hfin : FullRel w (w11.setCell ⟨w.heap.size + 1 + 1, 1, none⟩ (.slice A11 (k + 1) c11)) nx l (some ad) c (k + 1) A11 c11 := by
        have hb11 := HB11.out
        refine ⟨?_, ?_, blk_put HC11.out 1 _ rfl, ?_, (HF.out.below.trans (hb11.mono (by omega))).setCell (by show w.heap.size ≤ w.heap.size + 1 + 1; omega) _, ?_⟩
        · exact (Below.heap_setCell _ _ _ _ (by show w.heap.size ≠ w.heap.size + 1 + 1; omega)).trans (blk_below' HF.out.hb hb11 (by omega))
        · exact (Below.heap_setCell _ _ _ _ (by show w.heap.size + 1 ≠ w.heap.size + 1 + 1; omega)).trans (blk_below' HF.out.hr hb11 (by omega))
        · rw [HN.out]
          exact Kd.S_far HO11.out (fun j hj => by show j ≠ w.heap.size + 1 + 1; omega) _
        · have := hb11.size
          have e : (w11.setCell ⟨w.heap.size + 1 + 1, 1, none⟩ (.slice A11 (k + 1) c11)).heap.size = w11.heap.size := by simp [World.setCell]
          omega
      have HFin := Lib.hid hfin
      clear hfin y1 yf v0 v1 v2 v3' v4 n1
      go_roundw
      case rel => exact ⟨k + 1, A11, c11, by omega, by go_num, HFin⟩
      case measure => simp [intOf]; omega
    · obtain rfl : k = l.length := by omega
      have hs := HF.out.hs
      rw [List.take_length] at hs
      have HS := Lib.hid hs
      have hsz := HF.out.size
      have n1' := blk_cell HF.out.hc 1
      have n0' := blk_cell HF.out.hc 0
      have HLm := Lib.hid (show (l.map mkV ++ [markV]).length = l.length + 1 by simp)
      obtain ⟨i1, hi1, _⟩ := info_parts vn_info
      have HI1 := Lib.hid hi1
      have m0' := blk_cell HF.out.hb 0
      clear hs hi1
      go_wp2_with ((with_reducible refine gate_builtin (b := .append) (xs := #[.tmp 44, .tmp 46]) rfl ?_); at_builtin; clear n1' n0' m0' m1; refine Kd.S_append kVm (w0 := wr) (w.heap.size + 3) rfl (.tmp 44) (.tmp 46) 22 48 _ 72 rfl Try.underlying22 vn_info rfl (by decide) (by decide) (.slice A1 l.length c1) (l.map mkV) markV [.string ⟨#[109, 97, 114, 107]⟩, .int .i64 0, .bool false, .string ⟨#[]⟩, .slice none 0 0] (fun j => w.heap.size + 3 ≤ j) (fun _ => False) rfl rfl ?aP (fun _ hk => hk.elim) ?aF ?aO ?aB ?aS ?aL ?_; (case aP => exact kVm_mkM _ _ _ markV (A := none) (c := 0) (Kd.R_nil _ _ _ _ _)); (case aF => exact fun j hj => by omega); (case aO => exact Kd.S_mono HS.out (fun _ hk => ⟨hk, fun h => h.elim⟩)); (case aB => exact Below.refl _ _); (case aS => omega); (case aL => rw [List.length_map]; omega); intro v11 w11 ho hb hg hat; obtain ⟨A11, c11, hv⟩ := Kd.S_slice ho; rw [HLm.out] at hv; subst hv; have hcv := (Kd.S_reads' ho).2.1; have hcut := cut_to (P := Try.prog) 22 48 .i64 Try.underlying22 HI1.out A11 (l.length + 1) c11 (l.length : Int) (by omega) (by omega) hcv; rw [Int.toNat_natCast] at hcut; have hc11 := blk_grown HF.out.hc hg (fun he => by have := Kd.S_base HF.out.hs _ he.symm; omega); have hr11 := blk_below' HF.out.hr hb (by omega); have HO11 := Lib.hid ho; have HB11 := Lib.hid hb; have y0 := blk_cell hc11 0; have y1 := blk_cell hc11 1; have yf : ∀ o, w11.frozen? ⟨w.heap.size + 1 + 1, o, none⟩ = false := blk_frozen hc11; have q0 := blk_cell hr11 0; have q1 := blk_cell hr11 1; have qf : ∀ o, w11.frozen? ⟨w.heap.size + 1, o, none⟩ = false := blk_frozen hr11; clear ho hb hg hat hcv hc11 hr11)
      refine bodyPost_ret (v := .agg #[.int .i64 nx, .slice A11 l.length c11]) (by simp [results, Try.results23, go_sem, q0, q1]) rfl ?_
      refine ⟨A11, c11, rfl, ?_, ?_⟩
      · unfold Owned
        refine Kd.S_lower (Kd.S_mono (Kd.S_far (Kd.S_far (Kd.S_far HO11.out ?_ _) ?_ _) ?_ _) (fun j hj => by omega)) (by omega)
        all_goals (intro j hj; show j ≠ _; simp only; omega)
      · exact (((HF.out.below.trans (HB11.out.mono (by omega))).setCell (by show w.heap.size ≤ w.heap.size + 1 + 1; omega) _).setCell (by show w.heap.size ≤ w.heap.size + 1; omega) _).setCell (by show w.heap.size ≤ w.heap.size + 1; omega) _
end Go.Proofs.Ytbhdehkdnenigaa

set_option linter.unusedVariables false
set_option linter.unusedSimpArgs false
namespace Go.Proofs.Ytbhdehkdnenigaa
open Go.RowKit Go.Proofs.YtbhdehkdnenigaaW.PrintWords Go.Proofs.YtbhdehkdnenigaaW.PrintLast Go.Proofs.YtbhdehkdnenigaaW.PrintMore
def vT (i k : Nat) : ByteArray := bs [b8 ((i : Int) % 256), b8 ((k : Int) % 256)]
def mP (i k : Nat) : Pr := ⟨⟨#[109]⟩, vT i k⟩
def mkd (i : Nat) (x : Vn) : Vn := ⟨⟨#[109, 97, 114, 107, 101, 100]⟩, -(i : Int) - 1, x.gone, x.data, (List.range x.pairs.length).map (mP i)⟩
def mkL (l : List Vn) : List Vn := l.zipIdx.map fun p => mkd p.2 p.1
def LstM (l : List Vn) (i : Nat) : List Vn := (mkL l).take i ++ l.drop i
def stP (i k : Nat) (l : List Pr) : List Pr := (List.range k).map (mP i) ++ l.drop k
theorem mkL_len (l : List Vn) : (mkL l).length = l.length := by simp [mkL]
theorem mkL_at (l : List Vn) (i : Nat) (h : i < l.length) : (mkL l)[i]'(by rw [mkL_len]; exact h) = mkd i l[i] := by simp [mkL]
theorem lstm_len (l : List Vn) (i : Nat) (h : i ≤ l.length) : (LstM l i).length = l.length := by simp [LstM, mkL_len]; omega
theorem lstm_0 (l : List Vn) : LstM l 0 = l := by simp [LstM]
theorem lstm_all (l : List Vn) : LstM l l.length = mkL l := by
  unfold LstM
  rw [List.take_of_length_le (by rw [mkL_len]; exact Nat.le_refl _), List.drop_length, List.append_nil]
theorem lstm_next (l : List Vn) (i : Nat) (h : i < l.length) : (LstM l i).set i (mkd i l[i]) = LstM l (i + 1) := by
  have hl : ((mkL l).take i).length = i := by simp [mkL_len]; omega
  unfold LstM
  rw [List.set_append_right _ _ (by omega), hl, Nat.sub_self, List.drop_eq_getElem_cons h, List.set_cons_zero, List.take_succ_eq_append_getElem (by rw [mkL_len]; exact h), mkL_at l i h, List.append_assoc]
  rfl
theorem lstm_self (l : List Vn) (i : Nat) (h : i < l.length) : (LstM l i).set i l[i] = LstM l i := by
  have hl : ((mkL l).take i).length = i := by simp [mkL_len]; omega
  unfold LstM
  rw [List.set_append_right _ _ (by omega), hl, Nat.sub_self]
  congr 1
  conv => rhs; rw [List.drop_eq_getElem_cons h]
  rw [List.drop_eq_getElem_cons h, List.set_cons_zero]
theorem setD (X : List Vn) (i : Nat) (y : Vn) (h : i < X.length) : (X.set i y).getD i zV = y := by
  rw [List.getD_eq_getElem?_getD, List.getElem?_set_self h]; rfl
theorem stP_len (i k : Nat) (l : List Pr) (h : k ≤ l.length) : (stP i k l).length = l.length := by simp [stP]; omega
theorem stP_0 (i : Nat) (l : List Pr) : stP i 0 l = l := by simp [stP]
theorem stP_all (i : Nat) (l : List Pr) : stP i l.length l = (List.range l.length).map (mP i) := by simp [stP]
theorem stP_set (i k : Nat) (l : List Pr) (h : k < l.length) : (stP i k l).set k (mP i k) = stP i (k + 1) l := by
  have hl : ((List.range k).map (mP i)).length = k := by simp
  unfold stP
  rw [List.set_append_right _ _ (by omega), hl, Nat.sub_self, List.drop_eq_getElem_cons h, List.set_cons_zero, List.range_succ, List.map_append, List.append_assoc]
  rfl
/-- a pair is written over -/
theorem pair_store {W : World} {base g n cap : Nat} {ok : Nat → Prop} {xs : List Pr} (h : kPr.R 60 W base ok (.slice (some ⟨g, 0, none⟩) n cap) xs) (k : Nat) (hk : k < n) (p : Pr) :
    (∃ u0 u1, W.cell? ⟨g, k * 2, none⟩ = some u0 ∧ W.cell? ⟨g, k * 2 + 1, none⟩ = some u1) ∧ (∀ j, W.frozen? ⟨g, k * 2 + j, none⟩ = false) ∧ kPr.R 60 ((W.setCell ⟨g, k * 2, none⟩ (.string p.n)).setCell ⟨g, k * 2 + 1, none⟩ (.string p.v)) base ok (.slice (some ⟨g, 0, none⟩) n cap) (xs.set k p) ∧ W.grownBy ((W.setCell ⟨g, k * 2, none⟩ (.string p.n)).setCell ⟨g, k * 2 + 1, none⟩ (.string p.v)) (some g) := by
  obtain ⟨cc, hcl, hM, hcc, hfz⟩ := Kd.R_elem h pMark (k : Int) (by omega) (by omega)
  have h2 := kPr_openM hM
  subst h2
  have h3 := Kd.R_seg (okp := fun _ => False) h (k : Int) (by omega) (by omega) (seg := [.string p.n, .string p.v]) (j := 0) (x' := p) hcl hcc (show 0 + 2 ≤ 2 by decide) (kPr_mkM _ _ _ p) (fun _ hk => hk.elim)
  have c0 := hcc 0 _ rfl
  have c1 := hcc 1 _ rfl
  simp only [Int.toNat_natCast] at h3 c0 c1 hfz
  exact ⟨⟨_, _, c0, c1⟩, hfz, h3.1, h3.2⟩
theorem conv2 {P : Program} {src dst e : TypeId} (hs : P.underlying src = some (.slice e)) (he : P.underlying e = some (.int .u8)) (hd : P.underlying dst = some .string) (W : World) (x y : Int) (t : TypeId) :
    (convert src dst (.slice (some ⟨W.heap.size, 0, none⟩) 2 2)).run P (W.alloc (.cells #[.int .u8 x, .int .u8 y] t)).drew = .ok (.string (bs [b8 x, b8 y])) (W.alloc (.cells #[.int .u8 x, .int .u8 y] t)).drew :=
  run_convert_bytes_arg _ src e hs he W.heap.size 0 2 2 [x, y] rfl (fun i hi => by
    match i, hi with
    | 0, _ => simp [go_sem]
    | 1, _ => simp [go_sem]) dst hd
theorem frz_new {w : World} {p : Addr} {v : Value} (hc : w.cell? p = some v) (h : w.frozen? p = false) (o : Obj) : (w.alloc o).frozen? p = false := ((below_alloc (Below.refl _ _) o).frozen (World.block_lt_of_cell? _ _ hc)).trans h
/-- a version's key and number are written over -/
theorem Aq.mark {w wr : World} {lo hi g n cap i : Nat} {X : List Vn} {z : Vn} (h : Aq w wr lo hi (.slice (some ⟨g, 0, none⟩) n cap) (X.set i z)) (hi' : i < n) (hX : i < X.length) (key : ByteArray) (seq : Int) :
    Aq w ((wr.setCell ⟨g, i * 5, none⟩ (.string key)).setCell ⟨g, i * 5 + 1, none⟩ (.int .i64 seq)) lo hi (.slice (some ⟨g, 0, none⟩) n cap) (X.set i ⟨key, seq, z.gone, z.data, z.pairs⟩) := by
  obtain ⟨v4, _, _, _, _, _, _, hput⟩ := h.cells i hi'
  rw [setD X i z hX] at hput
  have h1 := hput ⟨key, z.seq, z.gone, z.data, z.pairs⟩ 0 (.string key) rfl (.inl ⟨rfl, rfl, rfl⟩)
  rw [List.set_set, Nat.add_zero] at h1
  obtain ⟨v4, _, _, _, _, _, _, hput⟩ := h1.cells i hi'
  rw [setD X i _ hX] at hput
  have h2 := hput ⟨key, seq, z.gone, z.data, z.pairs⟩ 1 (.int .i64 seq) rfl (.inr (.inl ⟨rfl, rfl, rfl⟩))
  rwa [List.set_set] at h2
/-- a pair of a version is written over -/
theorem Aq.pair {w wr : World} {lo hi g n cap i b m c4 k : Nat} {X : List Vn} {x : Vn} {pr : List Pr} (h : Aq w wr lo hi (.slice (some ⟨g, 0, none⟩) n cap) (X.set i (putP x pr))) (hi' : i < n) (hX : i < X.length) (hlo : lo ≤ wr.heap.size) (e4 : wr.cell? ⟨g, i * 5 + 4, none⟩ = some (.slice (some ⟨b, 0, none⟩) m c4)) (hk : k < m) (p : Pr) :
    Aq w ((wr.setCell ⟨b, k * 2, none⟩ (.string p.n)).setCell ⟨b, k * 2 + 1, none⟩ (.string p.v)) lo hi (.slice (some ⟨g, 0, none⟩) n cap) (X.set i (putP x (pr.set k p))) := by
  obtain ⟨v4, _, _, _, e4', _, ⟨oki, _, r4, f4⟩, _⟩ := h.cells i hi'
  rw [setD X i _ hX] at r4 f4
  obtain rfl : v4 = .slice (some ⟨b, 0, none⟩) m c4 := Option.some.inj (e4'.symm.trans e4)
  obtain ⟨_, _, hR, hg⟩ := pair_store r4 k hk p
  have h2 := f4 _ _ hg hR hlo
  rwa [List.set_set] at h2
set_option maxRecDepth 100000 in
set_option maxHeartbeats 4000000 in
theorem marked_any (l : List Vn) (nx : Int) (A : Option Addr) (c lo hi : Nat) (w : World) (hS : Kd.S kVn 48 w lo (inR lo hi) (.slice A l.length c) l) (hlo : lo ≤ w.heap.size) (hhi : hi ≤ w.heap.size) (hlen : l.length ≤ 1099511627776) (hx : ∀ x ∈ l, x.pairs.length ≤ 1099511627776) :
    Calls Try.prog 25 #[.agg #[.int .i64 nx, .slice A l.length c]] w fun e w' => e = .returned (.tuple #[]) ∧ Kd.S kVn 48 w' lo (inR lo hi) (.slice A l.length c) (mkL l) ∧ Wi lo hi w w' := by
  have HX := Lib.hid hx
  have HA : Hid (Aq (w.alloc (.cells #[.int .i64 nx, .slice A l.length c] 24)) (w.alloc (.cells #[.int .i64 nx, .slice A l.length c] 24)) lo hi (.slice A l.length c) (LstM l 0)) := Lib.hid ⟨by rw [lstm_0]; exact Kd.S_alloc hS _, Wi.refl _ _ _⟩
  have hbk := blk_new w (.cells #[.int .i64 nx, .slice A l.length c] 24 (0, 0))
  have hbw := below1 w (.cells #[.int .i64 nx, .slice A l.length c] 24)
  have hsz := alloc_sz w (.cells #[.int .i64 nx, .slice A l.length c] 24)
  have HBk := Lib.hid hbk
  have HBw := Lib.hid hbw
  clear hx hS hbk hbw
  go_enter Try.func25, Try.ntmps25
  go_wp2
  generalize w.alloc (.cells #[.int .i64 nx, .slice A l.length c] 24) = W1 at *
  go_loopg [2] l.length (fun gk u2 wx => ∃ i : Nat, i + gk = l.length ∧ u2 = .int .i64 (i : Int) ∧ Hid (Aq W1 wx lo hi (.slice A l.length c) (LstM l i)))
  case atStart => exact ⟨0, by omega, rfl, HA⟩
  case round =>
    clear HA
    obtain ⟨i, hig, rfl, HA⟩ := hrel
    have m1 := blk_cell ((HA.out.wi.block (.inr hhi) (by omega)).trans HBk.out) 1
    cases gk with
    | zero =>
      obtain rfl : i = l.length := by omega
      go_wp2
      go_end0
      have hs := HA.out.s
      rw [lstm_all] at hs
      exact ⟨rfl, hs, (Wi.of_below HBw.out hlo).trans HA.out.wi⟩
    | succ go =>
      have hi' : i < l.length := by omega
      obtain ⟨wo, rfl⟩ : ∃ wo : World, wo = wr := ⟨_, rfl⟩
      obtain ⟨g, rfl⟩ : ∃ g, A = some ⟨g, 0, none⟩ := by
        obtain ⟨g, cap, hv, _⟩ := Kd.S_form HA.out.s (by rw [lstm_len l i (Nat.le_of_lt hi')]; omega)
        injection hv with hv _ _
        exact ⟨g, hv⟩
      have b1 : (i : Int) < (l.length : Int) := by omega
      have hm := HX.out _ (List.getElem_mem hi')
      have HSl := Lib.hid (fun y => setD (LstM l i) i y (by rw [lstm_len l i (Nat.le_of_lt hi')]; exact hi'))
      have HNx := Lib.hid (lstm_next l i hi')
      have HA0 : Hid (Aq W1 wo lo hi (.slice (some ⟨g, 0, none⟩) l.length c) ((LstM l i).set i (putP l[i] (stP i 0 l[i].pairs)))) := Lib.hid (by rw [stP_0, show putP l[i] l[i].pairs = l[i] from rfl, lstm_self l i hi']; exact HA.out)
      generalize l[i] = x at *
      clear HA
      go_wp2
      go_loopg [3] x.pairs.length (fun gk u3 wx => ∃ k : Nat, k + gk = x.pairs.length ∧ u3 = .int .i64 (k : Int) ∧ Hid (Aq W1 wx lo hi (.slice (some ⟨g, 0, none⟩) l.length c) ((LstM l i).set i (putP x (stP i k x.pairs)))))
      case atStart => exact ⟨0, by omega, rfl, HA0⟩
      case round =>
        clear HA0 m1
        obtain ⟨k, hkg, rfl, HA⟩ := hrel
        have m1 := blk_cell ((HA.out.wi.block (.inr hhi) (by omega)).trans HBk.out) 1
        obtain ⟨v4, e0, e1, e3, e4, hfz, ⟨oki, hok, r4, f4⟩, hput⟩ := HA.out.cells i hi'
        rw [HSl.out] at r4 f4 e0 e1 e3 hput
        have hr4 : kPr.R 60 wr lo oki v4 (stP i k x.pairs) := r4
        have hl4 := stP_len i k x.pairs (by omega)
        have HL4 := Lib.hid hl4
        have HR4 := Lib.hid hr4
        have HF4 := Lib.hid f4
        clear r4 hr4 hl4 f4 hok
        cases gk with
        | zero =>
          obtain rfl : k = x.pairs.length := by omega
          obtain ⟨A4, c4, rfl⟩ := Kd.R_slice HR4.out
          rw [HL4.out] at e4
          have hf0 := hfz 0
          rw [Nat.add_zero] at hf0
          have hf1 := hfz 1
          have HM := Lib.hid (HA.out.mark hi' (by rw [lstm_len l i (Nat.le_of_lt hi')]; exact hi') ⟨#[109, 97, 114, 107, 101, 100]⟩ (-(i : Int) - 1))
          clear hput hfz
          go_wp2
          have hn := HM.out
          rw [show (⟨⟨#[109, 97, 114, 107, 101, 100]⟩, -(i : Int) - 1, (putP x (stP i x.pairs.length x.pairs)).gone, (putP x (stP i x.pairs.length x.pairs)).data, (putP x (stP i x.pairs.length x.pairs)).pairs⟩ : Vn) = mkd i x by unfold mkd putP; rw [stP_all], HNx.out] at hn
          have HN := Lib.hid hn
          clear hn
          go_roundg go
          case measure => omega
          case rel => exact ⟨i + 1, by omega, by go_num, HN⟩
        | succ gi =>
          have hk : k < x.pairs.length := by omega
          obtain ⟨b, c4, rfl, _⟩ := Kd.R_form HR4.out (by rw [HL4.out]; omega)
          rw [HL4.out] at e4
          have b2 : (k : Int) < (x.pairs.length : Int) := by omega
          have hcv := fun (W : World) (x y : Int) (t : TypeId) => conv2 (P := Try.prog) (src := 61) (dst := 9) Try.underlying61 Try.underlying5 Try.underlying9 W x y t
          obtain ⟨⟨u0, u1, n0, n1⟩, nf, _, _⟩ := pair_store HR4.out k (by rw [HL4.out]; omega) (mP i k)
          have nf0 : wr.frozen? ⟨b, k * 2, none⟩ = false := nf 0
          have nf1 := nf 1
          clear nf
          go_wp2
          have n0' := fun o => cel_new n0 o
          have n1' := fun o => cel_new n1 o
          have f0' := fun o => frz_new n0 nf0 o
          have f1' := fun o => frz_new n1 nf1 o
          have m1' := fun o => cel_new m1 o
          have e4' := fun o => cel_new e4 o
          have hp := HA.out.pair hi' (by rw [lstm_len l i (Nat.le_of_lt hi')]; exact hi') (HA.out.lo_le (by omega)) e4 hk (mP i k)
          rw [stP_set i k x.pairs hk] at hp
          have HN := Lib.hid (hp.step (w1 := ((((wr.setCell ⟨b, k * 2, none⟩ (.string (mP i k).n)).setCell ⟨b, k * 2 + 1, none⟩ (.string (mP i k).v)).alloc (.cells #[.int .u8 ((i : Int) % 256), .int .u8 ((k : Int) % 256)] 5)).drew)) (below_drew1 (below_alloc (Below.refl _ _) _)) (by omega))
          clear hput hp
          go_region
          go_wp2
          go_roundg gi
          case measure => omega
          case rel => exact ⟨k + 1, by omega, by go_num, HN⟩
end Go.Proofs.Ytbhdehkdnenigaa

set_option linter.unusedVariables false
set_option linter.unusedSimpArgs false
namespace Go.Proofs.Ytbhdehkdnenigaa
open Go.RowKit Go.Proofs.YtbhdehkdnenigaaW.PrintWords
theorem Wi.new {lo hi : Nat} {w wr : World} (h : Wi lo hi w wr) {p : Addr} (hp : w.heap.size ≤ p.block) (hlo : lo ≤ w.heap.size) (u : Value) : Wi lo hi w (wr.setCell p u) :=
  ⟨h.below.setCell (by omega) _, fun k h3 h4 => (Below.heap_setCell wr p u k (by omega)).trans (h.keep k h3 h4)⟩
theorem Wi.grow {lo hi : Nat} {w wr w1 : World} {row : Option Nat} (h : Wi lo hi w wr) (hg : wr.grownBy w1 row) (hr : ∀ k, row = some k → inR lo hi k ∨ w.heap.size ≤ k) (hlo : lo ≤ w.heap.size) : Wi lo hi w w1 :=
  ⟨h.below.trans ((Below.refl _ _).grown hg (Nat.le_trans hlo h.below.size) (fun k hk => (hr k hk).elim (fun h2 => h2.1) (fun h2 => Nat.le_trans hlo h2))), fun k h3 h4 => (hg.block k (Nat.lt_of_lt_of_le h4 h.below.size) (fun he => (hr k he.symm).elim (fun h2 => Nat.lt_irrefl _ (Nat.lt_of_lt_of_le h2.2 h3)) (fun h2 => Nat.lt_irrefl _ (Nat.lt_of_lt_of_le h4 h2)))).trans (h.keep k h3 h4)⟩
theorem Wi.more {lo hi : Nat} {w wr w1 : World} (h : Wi lo hi w wr) (hb : Below wr.heap.size wr w1) (hlo : lo ≤ w.heap.size) : Wi lo hi w w1 := h.trans (Wi.of_below hb (Nat.le_trans hlo h.below.size))
/-- the blocks that the list may lie in -/
def okG (lo hi N : Nat) : Nat → Prop := fun k => inR lo hi k ∨ N + 1 ≤ k
structure Gq (w wr : World) (lo hi : Nat) (nx : Int) (v : Value) (xs : List Vn) : Prop where
  s : Kd.S kVn 48 wr lo (okG lo hi w.heap.size) v xs
  wi : Wi lo hi w wr
  bk : wr.heap[w.heap.size]? = some (.cells #[.int .i64 nx, v] 24 (0, 0))
  sz : w.heap.size + 1 ≤ wr.heap.size
def grownV : Vn := ⟨⟨#[103, 114, 111, 119, 110]⟩, 0, false, ⟨#[]⟩, []⟩
def gP (i k : Nat) : Pr := ⟨⟨#[103]⟩, vT i k⟩
def grw (l : List Vn) (t j : Nat) : List Pr := (List.range (l.getD j zV).pairs.length).map (mP j) ++ (List.range t).map (gP j)
def rows (l : List Vn) (i : Nat) : List (List Pr) := (List.range i).map (grw l 9)
theorem grw_len (l : List Vn) (t j : Nat) : (grw l t j).length = (l.getD j zV).pairs.length + t := by simp [grw]
theorem grw_snoc (l : List Vn) (t j : Nat) : grw l t j ++ [gP j t] = grw l (t + 1) j := by simp [grw, List.range_succ]
theorem rows_len (l : List Vn) (i : Nat) : (rows l i).length = i := by simp [rows]
theorem rows_snoc (l : List Vn) (i : Nat) : rows l i ++ [grw l 9 i] = rows l (i + 1) := by simp [rows, List.range_succ]
/-- the list, grown -/
def grL (l : List Vn) (k : Nat) : List Vn := mkL l ++ List.replicate k grownV
theorem grL_len (l : List Vn) (k : Nat) : (grL l k).length = l.length + k := by simp [grL, mkL_len]
theorem grL_snoc (l : List Vn) (k : Nat) : grL l k ++ [grownV] = grL l (k + 1) := by simp [grL, List.replicate_succ']
theorem grL_at (l : List Vn) (k i : Nat) (h : i < l.length) : (grL l k)[i]'(by rw [grL_len]; omega) = mkd i l[i] := by
  unfold grL
  rw [List.getElem_append_left (by rw [mkL_len]; exact h)]
  exact mkL_at l i h
/-- the rows of a list that lie apart, one by one -/
theorem S_family {w : World} {base g n cap : Nat} {ok : Nat → Prop} {xs : List Vn} (h : Kd.S kVn 48 w base ok (.slice (some ⟨g, 0, none⟩) n cap) xs) :
    ∃ f : Nat → Nat, ∀ i (hi : i < xs.length), ∃ v4 : Value, w.cell? ⟨g, i * 5, none⟩ = some (.string xs[i].key) ∧ w.cell? ⟨g, i * 5 + 1, none⟩ = some (.int .i64 xs[i].seq) ∧ w.cell? ⟨g, i * 5 + 4, none⟩ = some v4 ∧ kPr.R 60 w base (fun k => (ok k ∧ k ≠ g) ∧ f k = i) v4 xs[i].pairs := by
  obtain ⟨f, h0, inner, ho, hr⟩ := h
  refine ⟨f, fun i hi => ?_⟩
  have hlen : inner.length = xs.length * 5 := by have := hr.1; rw [List.length_zipIdx] at this; exact this
  have hgo : (Value.slice (some ⟨g, 0, none⟩) n cap).ownBlock = some g := by simp [Value.ownBlock]
  have hM := hr.2 i _ (Kd.zip_at (List.getElem?_eq_getElem hi))
  have hM2 : kVn.M w base (fun k => (ok k ∧ k ≠ g) ∧ f k = i) xs[i] ((inner.drop (i * 5)).take 5) := kVn.M_mono (fun k hk => ⟨⟨hk.1.1, fun he => hk.1.2 (by rw [he, hgo])⟩, hk.2⟩) hM
  have hcell : ∀ j u, ((inner.drop (i * 5)).take 5)[j]? = some u → w.cell? ⟨g, i * 5 + j, none⟩ = some u := fun j u hu => by
    rw [List.getElem?_take] at hu
    split at hu
    · rw [List.getElem?_drop] at hu
      have := ho.cells (g := g) hgo _ u hu
      rwa [add_plain] at this
    · cases hu
  obtain ⟨v4, he, g4⟩ := kVn_openM hM2
  rw [he] at hcell
  exact ⟨v4, hcell 0 _ rfl, hcell 1 _ rfl, hcell 4 _ rfl, g4⟩
/-- string([]byte{x, y}), the slice new -/
theorem conv2n {P : Program} {src dst e : TypeId} (hs : P.underlying src = some (.slice e)) (he : P.underlying e = some (.int .u8)) (hd : P.underlying dst = some .string) (W : World) (x y : Int) (t : TypeId) :
    (convert src dst (.slice (some ⟨W.heap.size, 0, none⟩) 2 2)).run P (W.alloc (.cells #[.int .u8 x, .int .u8 y] t)) = .ok (.string (bs [b8 x, b8 y])) (W.alloc (.cells #[.int .u8 x, .int .u8 y] t)) :=
  run_convert_bytes_arg _ src e hs he W.heap.size 0 2 2 [x, y] rfl (fun i hi => by
    match i, hi with
    | 0, _ => simp [go_sem]
    | 1, _ => simp [go_sem]) dst hd
/-- the blocks of row i; of the rows below i -/
def okF (f : Nat → Nat) (g lo hi N S i : Nat) : Nat → Prop := fun k => k < S ∧ okG lo hi N k ∧ k ≠ g ∧ f k = i
def okB (f : Nat → Nat) (g lo hi N S i : Nat) : Nat → Prop := fun k => (k < S ∧ okG lo hi N k ∧ k ≠ g ∧ f k < i) ∨ S ≤ k
structure Lq (w W2 wr : World) (f : Nat → Nat) (g lo hi : Nat) (l : List Vn) (i : Nat) (lv : Value) : Prop where
  keep : ∀ k, k < W2.heap.size → ¬ okB f g lo hi w.heap.size W2.heap.size i k → wr.heap[k]? = W2.heap[k]?
  s : Kd.S (Kd.slice 60 kPr) 46 wr lo (okB f g lo hi w.heap.size W2.heap.size i) lv (rows l i)
  wi : Wi lo hi w wr
  sz : W2.heap.size ≤ wr.heap.size
structure Mq (w W2 wo wr : World) (f : Nat → Nat) (g lo hi : Nat) (l : List Vn) (i t : Nat) (v : Value) : Prop where
  r : kPr.R 60 wr lo (fun k => okF f g lo hi w.heap.size W2.heap.size i k ∨ wo.heap.size ≤ k) v (grw l t i)
  keep : ∀ k, k < wo.heap.size → ¬ okF f g lo hi w.heap.size W2.heap.size i k → wr.heap[k]? = wo.heap[k]?
  wi : Wi lo hi w wr
  sz : wo.heap.size ≤ wr.heap.size
section
variable {w W2 wo wr W w1 : World} {f : Nat → Nat} {g lo hi i t : Nat} {l : List Vn} {v v1 lv : Value}
theorem Mq.next (h : Mq w W2 wo wr f g lo hi l i t v) (hlo : lo ≤ w.heap.size) (hw : w.heap.size ≤ wo.heap.size) (hb : Below wr.heap.size wr W) (hg : W.grownBy w1 v.ownBlock) (hR : kPr.R 60 w1 lo (fun k => okF f g lo hi w.heap.size W2.heap.size i k ∨ wo.heap.size ≤ k) v1 (grw l t i ++ [gP i t])) : Mq w W2 wo w1 f g lo hi l i (t + 1) v1 := by
  have hrow := h.r.1
  refine ⟨by rw [grw_snoc] at hR; exact hR, fun k hk hn => ?_, (h.wi.more hb hlo).grow hg (fun k hk => ?_) hlo, Nat.le_trans h.sz (Nat.le_trans hb.size hg.size)⟩
  · refine (hg.block k (Nat.lt_of_lt_of_le hk (Nat.le_trans h.sz hb.size)) (fun he => ?_)).trans ((hb.block k (Nat.lt_of_lt_of_le hk h.sz)).trans (h.keep k hk hn))
    exact (hrow k he.symm).elim hn (fun h2 => by omega)
  · exact (hrow k hk).elim (fun h2 => h2.2.1.imp id (fun h3 => by omega)) (fun h2 => .inr (by omega))
theorem Mq.start (h : Lq w W2 wo f g lo hi l i lv) (hR : kPr.R 60 W2 lo (fun k => (okG lo hi w.heap.size k ∧ k ≠ g) ∧ f k = i) v (grw l 0 i)) : Mq w W2 wo wo f g lo hi l i 0 v := by
  refine ⟨?_, fun _ _ _ => rfl, h.wi, Nat.le_refl _⟩
  refine Kd.R_mono (Kd.R_step (Kd.R_bound hR) (fun k hk hlt => h.keep k hlt (fun hn => ?_))) (fun k hk => .inl ⟨hk.2.2.1, hk.1.1.1, hk.1.1.2, hk.1.2⟩)
  exact hn.elim (fun h2 => by have := h2.2.2.2; have := hk.1.2; omega) (fun h2 => by omega)
theorem Lq.moved (h : Lq w W2 wo f g lo hi l i lv) (hm : Mq w W2 wo wr f g lo hi l i 9 v) :
    Kd.S (Kd.slice 60 kPr) 46 wr lo (fun k => okB f g lo hi w.heap.size W2.heap.size (i + 1) k ∧ ¬ (okF f g lo hi w.heap.size W2.heap.size i k ∨ wo.heap.size ≤ k)) lv (rows l i) := by
  have hs := h.sz
  refine Kd.S_mono (Kd.S_step (Kd.S_bound h.s) (fun k hk hlt => hm.keep k hlt (fun hn => ?_))) (fun k hk => ⟨hk.1.imp (fun h2 => ⟨h2.1, h2.2.1, h2.2.2.1, by omega⟩) id, fun hn => ?_⟩)
  · exact hk.1.elim (fun h2 => by have := hn.2.2.2; omega) (fun h2 => by have := hn.1; omega)
  · rcases hn with hn | hn
    · exact hk.1.elim (fun h2 => by have := hn.2.2.2; omega) (fun h2 => by have := hn.1; omega)
    · have := hk.2.2.1
      omega
theorem Lq.apart (h : Lq w W2 wo f g lo hi l i lv) : ∀ k, okF f g lo hi w.heap.size W2.heap.size i k ∨ wo.heap.size ≤ k → okB f g lo hi w.heap.size W2.heap.size (i + 1) k ∧ some k ≠ lv.ownBlock := by
  intro k hk
  have hs := h.sz
  refine ⟨hk.elim (fun h2 => .inl ⟨h2.1, h2.2.1, h2.2.2.1, by have := h2.2.2.2; omega⟩) (fun h2 => .inr (by omega)), fun he => ?_⟩
  have h1 := Kd.S_lt h.s k he.symm
  have h2 := (Kd.S_R h.s).1 k he.symm
  rcases hk with hk | hk
  · exact h2.elim (fun h3 => by have := hk.2.2.2; omega) (fun h3 => by have := hk.1; omega)
  · omega
theorem Lq.next (h : Lq w W2 wo f g lo hi l i lv) (hm : Mq w W2 wo wr f g lo hi l i 9 v) (hlo : lo ≤ w.heap.size) (hw : w.heap.size ≤ W2.heap.size) (hb : Below wr.heap.size wr W) (hg : W.grownBy w1 lv.ownBlock)
    (hS : Kd.S (Kd.slice 60 kPr) 46 w1 lo (okB f g lo hi w.heap.size W2.heap.size (i + 1)) v1 (rows l i ++ [grw l 9 i])) : Lq w W2 w1 f g lo hi l (i + 1) v1 := by
  have hrow := (Kd.S_R h.s).1
  have hs := h.sz
  refine ⟨fun k hk hn => ?_, by rw [rows_snoc] at hS; exact hS, (hm.wi.more hb hlo).grow hg (fun k hk => ?_) hlo, Nat.le_trans hs (Nat.le_trans hm.sz (Nat.le_trans hb.size hg.size))⟩
  · have e1 : k < wr.heap.size := by have := hm.sz; omega
    refine (hg.block k (Nat.lt_of_lt_of_le e1 hb.size) (fun he => ?_)).trans ((hb.block k e1).trans ((hm.keep k (by omega) (fun h2 => ?_)).trans (h.keep k hk (fun h2 => ?_))))
    · exact hn ((hrow k he.symm).imp (fun h2 => ⟨h2.1, h2.2.1, h2.2.2.1, by omega⟩) id)
    · exact hn (.inl ⟨h2.1, h2.2.1, h2.2.2.1, by have := h2.2.2.2; omega⟩)
    · exact hn (h2.imp (fun h2 => ⟨h2.1, h2.2.1, h2.2.2.1, by omega⟩) id)
  · exact (hrow k hk).elim (fun h2 => h2.2.1.imp id (fun h3 => by omega)) (fun h2 => .inr (by omega))
theorem Lq.start (hwi : Wi lo hi w W2) : Lq w W2 W2 f g lo hi l 0 (.slice none 0 0) := ⟨fun _ _ _ => rfl, Kd.S_nil _ _ _ _ _, hwi, Nat.le_refl _⟩
/-- what lies in the list's own block, or in the box, stays -/
theorem Lq.cell (h : Lq w W2 wr f g lo hi l i lv) {a : Addr} {u : Value} (hc : W2.cell? a = some u) (ha : a.block = g ∨ ¬ okG lo hi w.heap.size a.block) : wr.cell? a = some u := by
  have hlt := World.block_lt_of_cell? _ _ hc
  have hk := h.keep _ hlt (fun hn => hn.elim (fun h2 => ha.elim h2.2.2.1 (fun h3 => h3 h2.2.1)) (fun h2 => by omega))
  rw [← hc]
  unfold World.cell?
  rw [hk]
end
theorem sl_info : (Try.prog.info? 46).map (fun i => (i.zero, i.size, i.bytes)) = some (some (.slice none 0 0), 1, 24) := by kernel_rfl
theorem sl_mkM (w : World) (base : Nat) (ok : Nat → Prop) {v : Value} {xs : List Pr} (h : kPr.R 60 w base ok v xs) : (Kd.slice 60 kPr).M w base ok xs [v] := ⟨v, rfl, h⟩
theorem grw_le (l : List Vn) (t j : Nat) (h : j < l.length) (hx : ∀ x ∈ l, x.pairs.length ≤ 1099511627) : (grw l t j).length ≤ 1099511627 + t := by
  rw [grw_len, List.getD_eq_getElem?_getD, List.getElem?_eq_getElem h]
  have := hx l[j] (List.getElem_mem h)
  simp only [Option.getD_some]
  omega
theorem grw_len9 (l : List Vn) (j : Nat) : (grw l 9 j).length = (l.getD j zV).pairs.length + 9 := grw_len l 9 j
theorem grw_lo (l : List Vn) (t j k : Nat) (h : k < (l.getD j zV).pairs.length) (hk : k < (grw l t j).length) : (grw l t j)[k] = mP j k := by
  unfold grw at hk ⊢
  rw [List.getElem_append_left (by simp only [List.length_map, List.length_range]; exact h)]
  simp
theorem grw_hi (l : List Vn) (t j k : Nat) (h : (l.getD j zV).pairs.length ≤ k) (hk : k < (grw l t j).length) : (grw l t j)[k] = gP j (k - (l.getD j zV).pairs.length) := by
  unfold grw at hk ⊢
  rw [List.getElem_append_right (by simp only [List.length_map, List.length_range]; exact h)]
  simp
theorem rows_at (l : List Vn) (n i : Nat) (h : i < n) : (rows l n)[i]'(by rw [rows_len]; exact h) = grw l 9 i := by simp [rows]
/-- the cells of a row of rows -/
theorem rows_cells {W : World} {base n cap : Nat} {ok : Nat → Prop} {A : Option Addr} {L : List (List Pr)} (h : Kd.S (Kd.slice 60 kPr) 46 W base ok (.slice A n cap) L) (i : Nat) (hi : i < L.length) (hp : 0 < L[i].length) :
    ∃ a b cp, A = some ⟨a, 0, none⟩ ∧ W.cell? ⟨a, i, none⟩ = some (.slice (some ⟨b, 0, none⟩) L[i].length cp) ∧ ∀ k (hk : k < L[i].length), W.cell? ⟨b, k * 2, none⟩ = some (.string L[i][k].n) ∧ W.cell? ⟨b, k * 2 + 1, none⟩ = some (.string L[i][k].v) := by
  have hR := Kd.S_R h
  obtain ⟨a, cap', hv, _⟩ := Kd.R_form hR (by omega)
  have hn := (Kd.R_reads' hR).1
  injection hv with hA _ _
  subst hA
  obtain ⟨c, hcl, hM, hcc, _⟩ := Kd.R_elem hR [] (i : Int) (by omega) (by omega)
  rw [Int.toNat_natCast, List.getD_eq_getElem?_getD, List.getElem?_eq_getElem hi, Option.getD_some] at hM
  obtain ⟨v, rfl, hr⟩ := hM
  obtain ⟨b, cp, rfl, _⟩ := Kd.R_form hr hp
  refine ⟨a, b, cp, rfl, ?_, fun k hk => ?_⟩
  · have := hcc 0 _ rfl
    rwa [Int.toNat_natCast, Nat.add_zero, show i * (Kd.slice 60 kPr).sz = i from Nat.mul_one i] at this
  · obtain ⟨c2, hcl2, hM2, hcc2, _⟩ := Kd.R_elem hr pMark (k : Int) (by omega) (by omega)
    rw [Int.toNat_natCast, List.getD_eq_getElem?_getD, List.getElem?_eq_getElem hk, Option.getD_some] at hM2
    have h2 := kPr_openM hM2
    subst h2
    have c0 := hcc2 0 _ rfl
    have c1 := hcc2 1 _ rfl
    rw [Int.toNat_natCast] at c0 c1
    exact ⟨c0, c1⟩
theorem conv2m {P : Program} {src dst e : TypeId} (hs : P.underlying src = some (.slice e)) (he : P.underlying e = some (.int .u8)) (hd : P.underlying dst = some .string) (W : World) (o1 o2 : Obj) (x y : Int) (t : TypeId) :
    (convert src dst (.slice (some ⟨W.heap.size + 1 + 1, 0, none⟩) 2 2)).run P (((W.alloc o1).alloc o2).alloc (.cells #[.int .u8 x, .int .u8 y] t)) = .ok (.string (bs [b8 x, b8 y])) (((W.alloc o1).alloc o2).alloc (.cells #[.int .u8 x, .int .u8 y] t)) := by
  have h := conv2n hs he hd ((W.alloc o1).alloc o2) x y t
  rwa [show ((W.alloc o1).alloc o2).heap.size = W.heap.size + 1 + 1 by simp [go_sem]] at h
end Go.Proofs.Ytbhdehkdnenigaa

set_option linter.unusedVariables false
set_option linter.unusedSimpArgs false
namespace Go.Proofs.Ytbhdehkdnenigaa
open Go.RowKit Go.Proofs.YtbhdehkdnenigaaW.PrintWords Go.Proofs.YtbhdehkdnenigaaW.PrintLast Go.Proofs.YtbhdehkdnenigaaW.PrintMore
set_option maxRecDepth 100000 in
set_option maxHeartbeats 8000000 in
theorem grown_any (l : List Vn) (nx : Int) (A : Option Addr) (c lo hi : Nat) (w : World) (hS : Kd.S kVn 48 w lo (inR lo hi) (.slice A l.length c) (mkL l)) (hlo : lo ≤ w.heap.size) (hhi : hi ≤ w.heap.size) (hlen : l.length ≤ 1099511627) (hx : ∀ x ∈ l, x.pairs.length ≤ 1099511627) :
    Calls Try.prog 26 #[.agg #[.int .i64 nx, .slice A l.length c]] w fun e w' => e = .returned (.bool true) ∧ Wi lo hi w w' := by
  have HX := Lib.hid hx
  have HG : Hid (Gq w (w.alloc (.cells #[.int .i64 nx, .slice A l.length c] 24)) lo hi nx (.slice A l.length c) (grL l 0)) := Lib.hid ⟨by rw [show grL l 0 = mkL l by simp [grL]]; exact Kd.S_mono (Kd.S_alloc hS _) (fun k hk => .inl hk), Wi.of_below (below1 _ _) hlo, blk_new w _, by simp [go_sem]⟩
  clear hx hS
  go_enter Try.func26, Try.ntmps26
  go_wp2
  go_loopg [4] 9 (fun gk u4 wx => ∃ (k : Nat) (v : Value), k + gk = 9 ∧ u4 = .int .i64 (k : Int) ∧ Hid (Gq w wx lo hi nx v (grL l k)))
  case atStart => exact ⟨0, _, by omega, rfl, HG⟩
  case round =>
    clear HG
    obtain ⟨k, v, hkg, rfl, HG⟩ := hrel
    cases gk with
    | zero =>
      obtain rfl : k = 9 := by omega
      obtain ⟨g, c9, rfl, _, _, _⟩ := Kd.S_form HG.out.s (by rw [grL_len]; omega)
      obtain ⟨f, hfam⟩ := S_family HG.out.s
      have HFM := Lib.hid hfam
      have hbk := HG.out.bk
      have hwi := HG.out.wi
      have hsz := HG.out.sz
      have hgg := HG.out.s.elim fun f hf => hf.1 g (by simp [Value.ownBlock])
      have hnb : ¬ okG lo hi w.heap.size w.heap.size := by unfold okG inR; omega
      have HBk := Lib.hid hbk
      have HWi := Lib.hid hwi
      have HL : Hid (Lq w wr wr f g lo hi l 0 (.slice none 0 0)) := Lib.hid (Lq.start hwi)
      clear HG hfam hbk hwi
      rw [grL_len] at *
      obtain ⟨W2, rfl⟩ : ∃ W2 : World, W2 = wr := ⟨_, rfl⟩
      go_wp2
      go_loopg [3, 5] l.length (fun gk u3 u5 wx => ∃ i : Nat, i + gk = l.length ∧ u5 = .int .i64 (i : Int) ∧ ∃ A3 c3, u3 = .slice A3 i c3 ∧ Hid (Lq w W2 wx f g lo hi l i u3))
      case atStart => exact ⟨0, by omega, rfl, none, 0, rfl, HL⟩
      case round =>
        clear HL
        obtain ⟨i, hig, rfl, A3, c3, rfl, HL⟩ := hrel
        have m1 := HL.out.cell (blk_cell HBk.out 1) (.inr hnb)
        cases gk with
        | zero =>
          obtain rfl : i = l.length := by omega
          have hrows := rows_cells HL.out.s
          have HW4 := Lib.hid HL.out.wi
          have HK : Hid (∀ i (hi : i < l.length), wr.cell? ⟨g, i * 5, none⟩ = some (.string ⟨#[109, 97, 114, 107, 101, 100]⟩) ∧ wr.cell? ⟨g, i * 5 + 1, none⟩ = some (.int .i64 (-(i : Int) - 1))) := Lib.hid (fun i hi => by
            obtain ⟨v4, e0, e1, _, _⟩ := HFM.out i (by rw [grL_len]; omega)
            rw [grL_at l 9 i hi] at e0 e1
            exact ⟨HL.out.cell e0 (.inl rfl), HL.out.cell e1 (.inl rfl)⟩)
          have HRw := Lib.hid hrows
          have HM1 := Lib.hid m1
          clear HL HFM hrows HBk
          obtain ⟨W4, rfl⟩ : ∃ W4 : World, W4 = wr := ⟨_, rfl⟩
          go_wp2
          go_loopg [8] l.length (fun gk u8 wx => ∃ i : Nat, i + gk = l.length ∧ u8 = .int .i64 (i : Int) ∧ Hid (Below W4.heap.size W4 wx))
          case atStart => exact ⟨0, by omega, rfl, Lib.hid (Below.refl _ _)⟩
          case round =>
            clear m1
            obtain ⟨i, hig, rfl, HB⟩ := hrel
            cases gk with
            | zero =>
              obtain rfl : i = l.length := by omega
              go_wp2
              go_ret
              exact ⟨rfl, HW4.out.more HB.out hlo⟩
            | succ go =>
              have hi' : i < l.length := by omega
              obtain ⟨wo, rfl⟩ : ∃ wo : World, wo = wr := ⟨_, rfl⟩
              have b1 : (i : Int) < (l.length : Int) := by omega
              have b2 : (i : Int) < ((l.length + 9 : Nat) : Int) := by omega
              obtain ⟨k0, k1⟩ := HK.out i hi'
              have m1 := pw_cell_below HB.out HM1.out
              have k0' := pw_cell_below HB.out k0
              have k1' := pw_cell_below HB.out k1
              have hln9 := grw_len9 l i
              have hpl := grw_le l 0 i hi' HX.out
              rw [grw_len] at hpl
              obtain ⟨p, hp⟩ : ∃ p, p = (l.getD i zV).pairs.length := ⟨_, rfl⟩
              rw [← hp] at hln9 hpl
              have HP := Lib.hid hp
              clear hp
              obtain ⟨a, b, cp, rfl, r0, hpr⟩ := HRw.out i (by rw [rows_len]; exact hi') (by rw [rows_at l _ i hi', hln9]; omega)
              have HPr : Hid (∀ k (hk : k < (grw l 9 i).length), W4.cell? ⟨b, k * 2, none⟩ = some (.string (grw l 9 i)[k].n) ∧ W4.cell? ⟨b, k * 2 + 1, none⟩ = some (.string (grw l 9 i)[k].v)) := Lib.hid (fun k hk => by
                have := hpr k (by rw [rows_at l _ i hi']; exact hk)
                simpa only [rows_at l _ i hi'] using this)
              rw [rows_at l _ i hi', hln9] at r0
              have HR0 := Lib.hid r0
              clear k0 k1 r0 hpr
              go_wp2
              go_loopg [9] (p + 9) (fun gk u9 wx => ∃ k : Nat, k + gk = p + 9 ∧ u9 = .int .i64 (k : Int) ∧ Hid (Below W4.heap.size W4 wx))
              case atStart => exact ⟨0, by omega, rfl, HB⟩
              case round =>
                clear HB m1 k0' k1' b1 b2
                obtain ⟨k, hkg, rfl, HB⟩ := hrel
                have r0 := pw_cell_below HB.out HR0.out
                have b1 : (i : Int) < (l.length : Int) := by omega
                cases gk with
                | zero =>
                  have b2 : decide ((k : Int) < (p : Int) + 9) = false := decide_eq_false (by omega)
                  go_wp2
                  go_roundg go
                  case measure => omega
                  case rel => exact ⟨i + 1, by omega, by go_num, HB⟩
                | succ gi =>
                  have b2 : decide ((k : Int) < (p : Int) + 9) = true := decide_eq_true (by omega)
                  have b3 : (k : Int) < (p : Int) + 9 := by omega
                  have hk : k < (grw l 9 i).length := by rw [hln9]; omega
                  obtain ⟨q0, q1⟩ := HPr.out k hk
                  have q0' := pw_cell_below HB.out q0
                  have q1' := pw_cell_below HB.out q1
                  clear q0 q1
                  have hcv := fun (W : World) (x y : Int) (t : TypeId) => conv2n (P := Try.prog) (src := 61) (dst := 9) Try.underlying61 Try.underlying5 Try.underlying9 W x y t
                  by_cases hkp : k < p
                  · rw [grw_lo l 9 i k (by rw [← HP.out]; exact hkp) hk] at q0' q1'
                    have z0 : wr.cell? ⟨b, k * 2, none⟩ = some (.string ⟨#[109]⟩) := q0'
                    have z1 : wr.cell? ⟨b, k * 2 + 1, none⟩ = some (.string (bs [b8 ((i : Int) % 256), b8 ((k : Int) % 256)])) := q1'
                    clear q0' q1'
                    have b4 : decide (0 ≤ (k : Int) - (p : Int)) = false := decide_eq_false (by omega)
                    go_wp2
                    have z0' := fun o1 o2 => cel_new (cel_new z0 o1) o2
                    have z1' := fun o1 o2 => cel_new (cel_new z1 o1) o2
                    have r0' := fun o1 o2 => cel_new (cel_new r0 o1) o2
                    go_region
                    go_wp2
                    go_roundg gi
                    case measure => omega
                    case rel => exact ⟨k + 1, by omega, by go_num, Lib.hid (HB.out.trans ((below_drew1 (below_alloc (below_alloc (Below.refl _ _) _) _)).mono HB.out.size))⟩
                  · rw [grw_hi l 9 i k (by rw [← HP.out]; omega) hk, ← HP.out] at q0' q1'
                    have z0 : wr.cell? ⟨b, k * 2, none⟩ = some (.string ⟨#[103]⟩) := q0'
                    have z1 : wr.cell? ⟨b, k * 2 + 1, none⟩ = some (.string (bs [b8 ((i : Int) % 256), b8 ((k : Int) - (p : Int))])) := by rw [q1']; show some (Value.string (bs [b8 ((i : Int) % 256), b8 (((k - p : Nat) : Int) % 256)])) = _; rw [show (((k - p : Nat) : Int) % 256) = (k : Int) - (p : Int) by omega]
                    clear q0' q1'
                    have hcw := fun (W : World) (o1 o2 : Obj) (x y : Int) (t : TypeId) => conv2m (P := Try.prog) (src := 61) (dst := 9) Try.underlying61 Try.underlying5 Try.underlying9 W o1 o2 x y t
                    have b4 : decide (0 ≤ (k : Int) - (p : Int)) = true := decide_eq_true (by omega)
                    go_wp2
                    have z0' := fun o1 o2 o3 => cel_new (cel_new (cel_new z0 o1) o2) o3
                    have z1' := fun o1 o2 o3 => cel_new (cel_new (cel_new z1 o1) o2) o3
                    have r0' := fun o1 o2 o3 => cel_new (cel_new (cel_new r0 o1) o2) o3
                    go_region
                    go_wp2
                    go_roundg gi
                    case measure => omega
                    case rel => exact ⟨k + 1, by omega, by go_num, Lib.hid (HB.out.trans ((below_drew1 (below_alloc (below_alloc (below_alloc (Below.refl _ _) _) _) _)).mono HB.out.size))⟩
        | succ go =>
          have hi' : i < l.length := by omega
          obtain ⟨wo, rfl⟩ : ∃ wo : World, wo = wr := ⟨_, rfl⟩
          have hwW := HWi.out.below.size
          have hwo := Nat.le_trans hwW HL.out.sz
          have b1 : (i : Int) + 9 < ((l.length + 9 : Nat) : Int) := by omega
          obtain ⟨v4, e0, e1, e4, hR⟩ := HFM.out i (by rw [grL_len]; omega)
          have n4 := HL.out.cell e4 (.inl rfl)
          rw [grL_at l 9 i hi'] at hR
          have HM : Hid (Mq w W2 wo wo f g lo hi l i 0 v4) := Lib.hid (Mq.start HL.out (by rw [show grw l 0 i = (mkd i l[i]).pairs by simp [grw, mkd, hi']]; exact hR))
          clear e0 e1 e4 hR
          obtain ⟨A4, c4, rfl⟩ := Kd.R_slice HM.out.r
          go_wp2
          go_loopg [6, 7] 9 (fun gk u6 u7 wx => ∃ t : Nat, t + gk = 9 ∧ u7 = .int .i64 (t : Int) ∧ Hid (Mq w W2 wo wx f g lo hi l i t u6))
          case atStart => exact ⟨0, by omega, rfl, HM⟩
          case round =>
            clear HM n4 m1 b1
            obtain ⟨t, htg, rfl, HM⟩ := hrel
            obtain ⟨A6, c6, rfl⟩ := Kd.R_slice HM.out.r
            cases gk with
            | zero =>
              obtain rfl : t = 9 := by omega
              have hlw := Nat.le_trans HL.out.sz HM.out.sz
              have hlb := HL.out.wi.below.size
              have hrl := rows_len l i
              go_wp2_with (at_builtin; refine Kd.S_append (Kd.slice 60 kPr) (w0 := wr) lo rfl (.tmp 50) (.tmp 52) 62 46 _ 24 rfl Try.underlying62 sl_info rfl (by decide) (by decide) (.slice A3 i c3) (rows l i) (grw l 9 i) [.slice A6 (grw l 9 i).length c6] (okB f g lo hi w.heap.size W2.heap.size (i + 1)) (fun k => okF f g lo hi w.heap.size W2.heap.size i k ∨ wo.heap.size ≤ k) rfl rfl ?aP HL.out.apart ?aF ?aO ?aB ?aS ?aL ?_; (case aP => exact sl_mkM _ _ _ (Kd.R_mono (Kd.R_bound HM.out.r) (fun k hk => hk.1))); (case aF => exact fun j hj => .inr (by omega)); (case aO => exact HL.out.moved HM.out); (case aB => exact Below.refl _ _); (case aS => omega); (case aL => rw [hrl]; omega); intro v1 w1 ho hb hg hat; have HN := Lib.hid (HL.out.next HM.out hlo hwW (Below.refl _ _) hg ho); have hsl := Kd.R_slice (Kd.S_R HN.out.s); rw [rows_len] at hsl; obtain ⟨A5, c5, rfl⟩ := hsl; clear ho hb hg hat)
              go_roundg go
              case measure => omega
              case rel => exact ⟨i + 1, by omega, by go_num, A5, c5, rfl, HN⟩
            | succ gi =>
              have ht : t < 9 := by omega
              have b2 : decide ((t : Int) < 9) = true := by simp; omega
              have hlw := Nat.le_trans HL.out.sz HM.out.sz
              have hcv := fun (W : World) (x y : Int) (t : TypeId) => conv2n (P := Try.prog) (src := 61) (dst := 9) Try.underlying61 Try.underlying5 Try.underlying9 W x y t
              have HGP : Hid (gP i t = ⟨⟨#[103]⟩, bs [b8 ((i : Int) % 256), b8 (t : Int)]⟩) := Lib.hid (by unfold gP vT; rw [show ((t : Int) % 256) = (t : Int) by omega])
              have hln := grw_le l t i hi' HX.out
              go_wp2_with (at_builtin; refine Kd.R_append kPr (w0 := wr) lo rfl (.tmp 40) (.tmp 48) 46 60 _ 32 rfl Try.underlying46 pr_info rfl (by decide) (by decide) (.slice A6 (grw l t i).length c6) (grw l t i) (gP i t) [.string ⟨#[103]⟩, .string (bs [b8 ((i : Int) % 256), b8 (t : Int)])] (fun k => okF f g lo hi w.heap.size W2.heap.size i k ∨ wo.heap.size ≤ k) (fun _ => False) (by simp [Act.eval]) (by simp [Act.eval, go_sem]) ?aP (fun _ hk => hk.elim) ?aF ?aO ?aB ?aS ?aL ?_; (case aP => rw [HGP.out]; exact kPr_mkM _ _ _ _); (case aF => exact fun j hj => .inr (by have := HM.out.sz; simp [go_sem] at hj; omega)); (case aO => exact Kd.R_alloc HM.out.r _); (case aB => exact (below_alloc (Below.refl _ _) _).mono (by have := HM.out.sz; omega)); (case aS => have := HM.out.wi.below.size; simp [go_sem]; omega); (case aL => omega); intro v1 w1 ho hb hg hat; have HN := Lib.hid (HM.out.next hlo hwo (below_alloc (Below.refl _ _) _) hg ho); clear ho hb hg hat)
              go_roundg gi
              case measure => omega
              case rel => exact ⟨t + 1, by omega, by go_num, HN⟩
    | succ gi =>
      have hk : k < 9 := by omega
      have b1 : decide ((k : Int) < 9) = true := by simp; omega
      have m1 := blk_cell HG.out.bk 1
      have hsz := HG.out.sz
      have hlw := HG.out.wi.below.size
      go_wp2_with (at_builtin; clear m1; refine Kd.S_append kVn (w0 := wr) lo rfl (.tmp 17) (.tmp 19) 22 48 _ 72 rfl Try.underlying22 vn_info rfl (by decide) (by decide) v (grL l k) grownV [.string ⟨#[103, 114, 111, 119, 110]⟩, .int .i64 0, .bool false, .string ⟨#[]⟩, .slice none 0 0] (okG lo hi w.heap.size) (fun _ => False) rfl rfl ?aP (fun _ hk => hk.elim) ?aF ?aO ?aB ?aS ?aL ?_; (case aP => exact kVn_mkM _ _ _ grownV (Kd.R_nil _ _ _ _ _)); (case aF => exact fun j hj => .inr (by omega)); (case aO => exact Kd.S_mono HG.out.s (fun _ hk => ⟨hk, fun h => h.elim⟩)); (case aB => exact Below.refl _ _); (case aS => omega); (case aL => rw [grL_len]; omega); intro v1 w1 ho hb hg hat; have hrow : ∀ j, v.ownBlock = some j → okG lo hi w.heap.size j := (Kd.S_R HG.out.s).1; have hne : some w.heap.size ≠ v.ownBlock := (fun he => by have := hrow _ he.symm; unfold okG inR at this; omega); have hbk := blk_grown HG.out.bk hg hne; have HBk := Lib.hid hbk; have HWi := Lib.hid (HG.out.wi.grow hg (fun j hj => (hrow j hj).imp id (fun h => by omega)) hlo); rw [grL_snoc] at ho; obtain ⟨A5, c5, rfl⟩ := Kd.R_slice (Kd.S_R ho); have HO := Lib.hid ho; have hz1 := hg.size; have y1 := blk_cell hbk 1; have yf : ∀ o, w1.frozen? ⟨w.heap.size, o, none⟩ = false := blk_frozen hbk; clear ho hb hg hat hbk hrow hne)
      have HN : Hid (Gq w (w1.setCell ⟨w.heap.size, 1, none⟩ (.slice A5 (grL l (k + 1)).length c5)) lo hi nx (.slice A5 (grL l (k + 1)).length c5) (grL l (k + 1))) := Lib.hid ⟨Kd.S_far HO.out (fun j hj => by show j ≠ w.heap.size; unfold okG inR at hj; omega) _, HWi.out.new (Nat.le_refl _) hlo _, blk_put HBk.out 1 _ rfl, by simp [World.setCell]; omega⟩
      go_roundg gi
      case measure => omega
      case rel => exact ⟨k + 1, _, by omega, by go_num, HN⟩
end Go.Proofs.Ytbhdehkdnenigaa

set_option linter.unusedVariables false
set_option linter.unusedSimpArgs false
namespace Go.Proofs.Ytbhdehkdnenigaa
open Go.RowKit Go.Proofs.YtbhdehkdnenigaaW.PrintWords Go.Proofs.YtbhdehkdnenigaaW.PrintLast Go.Proofs.YtbhdehkdnenigaaW.PrintMore
def kG.T1 : Bool × List (List Nat × List Nat) := (true, [([], []), ([], []), ([0, 1], [0, 1]), ([2], [2]), ([3, 2], [3]), ([4], [4]), ([5, 4], [4, 5]), ([4], [4]), ([7, 4], [4, 7]), ([8, 4], [4, 8]), ([9, 4], [4, 9]), ([6, 10, 4], [4, 6, 10]), ([4], [4]), ([12, 4], [4, 12]), ([13, 4], [4, 13]), ([11, 14, 4], [4, 11, 14]), ([15, 4], [4, 15]), ([16, 4], [4, 16]), ([17, 4], [4, 17]), ([4, 18], [4, 18])])
def kG.B1 : List Nat := [0, 0, 3, 7, 15, 31, 63, 31, 159, 415, 927, 2047, 31, 4127, 12319, 32767, 65535, 131071, 262143, 524287]
theorem kG.tab1 : rtab .any (opsOf Try.f24 1) = kG.T1 := by kernel_rfl
theorem kG.bits1 : waitsOk kG.T1.2 kG.B1 = true := by kernel_rfl
/-- element i of what was given -/
theorem owned_at {w : World} {base g c : Nat} {ok : Nat → Prop} {l : List Vn} (h : Owned w base ok (some ⟨g, 0, none⟩) c l) (i : Nat) (hi : i < l.length) :
    ∃ A4 c4, w.cell? ⟨g, i * 5 + 4, none⟩ = some (.slice A4 (l[i]'hi).pairs.length c4) ∧ (l[i]'hi).pairs.length + 1 ≤ c4 ∧ ∃ e4, A4 = some e4 ∧ w.cell? (e4.add ((l[i]'hi).pairs.length * 2)) = some (.string ⟨#[109, 97, 114, 107]⟩) := by
  have hC := (Kd.S_reads' h).2.2
  obtain ⟨ad, cs, had, _, hK, hcc⟩ := Kd.C_get hC markV (i : Int) (by omega) (by simp; omega)
  injection had with had
  subst had
  have hx : (l.map mkV ++ [markV]).getD i markV = mkV (l[i]'hi) := by
    rw [List.getD_eq_getElem?_getD, List.getElem?_append_left (by simpa using hi), List.getElem?_map, List.getElem?_eq_getElem hi]
    rfl
  rw [Int.toNat_natCast] at hK hcc
  rw [hx] at hK
  obtain ⟨A4, c4, rfl, l4, r4⟩ := kVm_open hK
  generalize l[i] = x at *
  have e4 : (mkV x).pairs = x.pairs ++ [pMark] := rfl
  have q4 := hcc 4 _ rfl
  rw [add_at, Nat.zero_add] at q4
  rw [e4] at q4 l4 r4
  simp only [List.length_append, List.length_singleton, Nat.add_sub_cancel] at q4 l4
  obtain ⟨ed, hed, n0, _⟩ := kPr_at r4 x.pairs.length (by simp)
  refine ⟨A4, c4, q4, l4, ed, hed, ?_⟩
  rw [n0]
  simp [pMark]
theorem owned_end {w : World} {base g c : Nat} {ok : Nat → Prop} {l : List Vn} (h : Owned w base ok (some ⟨g, 0, none⟩) c l) : w.cell? ⟨g, l.length * 5, none⟩ = some (.string ⟨#[109, 97, 114, 107]⟩) := by
  have hC := (Kd.S_reads' h).2.2
  obtain ⟨ad, cs, had, _, hK, hcc⟩ := Kd.C_get hC markV (l.length : Int) (by omega) (by simp; omega)
  injection had with had
  subst had
  have hx : (l.map mkV ++ [markV]).getD l.length markV = markV := by
    rw [List.getD_eq_getElem?_getD, List.getElem?_append_right (by simp)]
    simp
  rw [Int.toNat_natCast] at hK hcc
  rw [hx] at hK
  obtain ⟨A4, c4, rfl, _⟩ := kVm_open hK
  have q := hcc 0 _ rfl
  rw [add_at, Nat.zero_add, Nat.add_zero] at q
  exact q
set_option maxRecDepth 100000 in
set_option maxHeartbeats 4000000 in
theorem kept_any (l : List Vn) (nx nb : Int) (hnx : nx = nb) (A : Option Addr) (c : Nat) (B : Option Addr) (d : Nat) (w : World) {base : Nat} {ok : Nat → Prop} (hG : Owned w base ok A c l) (hC : kVn.C w B l.length l) (hd : l.length ≤ d) (hlen : l.length ≤ 1099511627776) (hx : ∀ x ∈ l, x.pairs.length ≤ 1099511627776) :
    Calls Try.prog 24 #[.agg #[.int .i64 nx, .slice A l.length c], .agg #[.int .i64 nb, .slice B l.length d]] w fun e w' => e = .returned (.bool true) ∧ Below w.heap.size w w' := by
  subst hnx
  obtain ⟨g, rfl, hlc⟩ := hG.form
  have HG := Lib.hid hG
  have HC := Lib.hid hC
  have HX := Lib.hid hx
  have HSm := fun W (hb : Below w.heap.size w W) => Lib.hid (show Calls Try.prog 18 #[.agg #[.int .i64 nx, .slice (some ⟨g, 0, none⟩) l.length c], .agg #[.int .i64 nx, .slice B l.length d]] W fun e w' => e = .returned (.bool true) ∧ Below W.heap.size W w' from by
    refine (same_any l l nx nx (some ⟨g, 0, none⟩) B c d W (Kd.S_reads' (HG.out.below hb).plain).2.2 (Kd.C_below HC.out hb) (by omega) hd).mono ?_
    rintro e w' ⟨rfl, hb⟩
    exact ⟨by simp [sVns], hb⟩)
  obtain ⟨i1, hi1, _⟩ := info_parts vn_info
  have hcut := cut_up (P := Try.prog) 22 48 .i64 Try.underlying22 hi1 (some ⟨g, 0, none⟩) l.length c ((l.length : Int) + 1) (by omega) (by omega)
  rw [show ((l.length : Int) + 1).toNat = l.length + 1 by omega] at hcut
  clear hG hC hi1 hx
  go_enter Try.func24, Try.ntmps24
  go_wp2
  have hbx := below2 w (.cells #[.int .i64 nx, .slice (some ⟨g, 0, none⟩) l.length c] 24) (.cells #[.int .i64 nx, .slice B l.length d] 24)
  have k0 : ((w.alloc (.cells #[.int .i64 nx, .slice (some ⟨g, 0, none⟩) l.length c] 24)).alloc (.cells #[.int .i64 nx, .slice B l.length d] 24)).cell? ⟨w.heap.size, 0, none⟩ = some (.int .i64 nx) := by simp [go_sem]
  have k1 : ((w.alloc (.cells #[.int .i64 nx, .slice (some ⟨g, 0, none⟩) l.length c] 24)).alloc (.cells #[.int .i64 nx, .slice B l.length d] 24)).cell? ⟨w.heap.size, 1, none⟩ = some (.slice (some ⟨g, 0, none⟩) l.length c) := by simp [go_sem]
  have k2 : ((w.alloc (.cells #[.int .i64 nx, .slice (some ⟨g, 0, none⟩) l.length c] 24)).alloc (.cells #[.int .i64 nx, .slice B l.length d] 24)).cell? ⟨w.heap.size + 1, 0, none⟩ = some (.int .i64 nx) := by simp [go_sem]
  have k3 : ((w.alloc (.cells #[.int .i64 nx, .slice (some ⟨g, 0, none⟩) l.length c] 24)).alloc (.cells #[.int .i64 nx, .slice B l.length d] 24)).cell? ⟨w.heap.size + 1, 1, none⟩ = some (.slice B l.length d) := by simp [go_sem]
  have k4 := cel_old hbx (owned_end HG.out)
  generalize (w.alloc (.cells #[.int .i64 nx, .slice (some ⟨g, 0, none⟩) l.length c] 24)).alloc (.cells #[.int .i64 nx, .slice B l.length d] 24) = wx at *
  have HB8 := Lib.hid (below_drew1 hbx)
  have HBX := Lib.hid hbx
  have HB0 := Lib.hid (below_drew1 (Below.refl wx.heap.size wx))
  have hwl : wrap64 ((l.length : Int) + 1) = (l.length : Int) + 1 := by unfold wrap64; omega
  have hix : (l.length : Int) < (l.length : Int) + 1 := by omega
  have t2 : ((⟨#[109, 97, 114, 107]⟩ : ByteArray).toList != (⟨#[109, 97, 114, 107]⟩ : ByteArray).toList) = false := by simp
  clear hbx
  refine start_ (n := 20) (S := fun w' => w'.cell? ⟨w.heap.size, 0, none⟩ = some (.int .i64 nx) ∧ w'.cell? ⟨w.heap.size, 1, none⟩ = some (.slice (some ⟨g, 0, none⟩) l.length c) ∧ w'.cell? ⟨w.heap.size + 1, 0, none⟩ = some (.int .i64 nx) ∧ w'.cell? ⟨w.heap.size + 1, 1, none⟩ = some (.slice B l.length d) ∧ w'.cell? ⟨g, l.length * 5, none⟩ = some (.string ⟨#[109, 97, 114, 107]⟩)) (ds := []) #[false, false, false, false, false, false, false, false, false, false, false, false, false, false, false, false, false, false, false, false] (by kernel_rfl) rfl rfl ⟨pw_cell_below (below_drew1 (Below.refl _ _)) k0, pw_cell_below (below_drew1 (Below.refl _ _)) k1, pw_cell_below (below_drew1 (Below.refl _ _)) k2, pw_cell_below (below_drew1 (Below.refl _ _)) k3, pw_cell_below (below_drew1 (Below.refl _ _)) k4⟩ (fun hHeld => ?_)
  refine with_tabW kG.tab1 kG.bits1 (fun HT_ HW_ => ?_)
  generalize wx.drew = w8 at HB8 HB0 hHeld ⊢
  refine take_ (i := 0) (N := some 7) (v := ?_) (a' := ?_) #[true, false, false, false, false, false, false, false, false, false, false, false, false, false, false, false, false, false, false, false] rfl rfl (take_ofW HT_.out HW_.out (by kernel_rfl)) (fun _ _ _ h => h) (Or.inl ⟨by rfl, ?_⟩) hHeld ?_ ?_
  rotate_left
  · rintro w' ⟨s0, s1, s2, s3, s4⟩
    go_simp
    with_reducible rfl
  rotate_left
  · simp only [Act.put, List.setIfInBounds_toArray, List.set_cons_zero, List.set_cons_succ, i64_w, i32_w]
    rfl
  refine take_ (i := 1) (N := some 8) (v := ?_) (a' := ?_) #[true, true, false, false, false, false, false, false, false, false, false, false, false, false, false, false, false, false, false, false] rfl rfl (take_ofW HT_.out HW_.out (by kernel_rfl)) (fun _ _ _ h => h) (Or.inl ⟨by rfl, ?_⟩) hHeld ?_ ?_
  rotate_left
  · rintro w' ⟨s0, s1, s2, s3, s4⟩
    go_simp
    with_reducible rfl
  rotate_left
  · simp only [Act.put, List.setIfInBounds_toArray, List.set_cons_zero, List.set_cons_succ, i64_w, i32_w]
    rfl
  refine one_ (i := 2) (N := some 9) #[true, true, true, false, false, false, false, false, false, false, false, false, false, false, false, false, false, false, false, false] rfl rfl (one_of HT_.out (by kernel_rfl)) (by decide) (fun K hK => ?_)
  refine goes_ Try.func18 (by kernel_rfl) rfl #[.agg #[.int .i64 nx, .slice (some ⟨g, 0, none⟩) l.length c], .agg #[.int .i64 nx, .slice B l.length d]] (by rfl) rfl rfl (by simp only [List.map_toArray, List.map_cons, List.map_nil]; rfl) ?_
  with_reducible refine ((HSm _ HB8.out).out).mono ?_
  rintro e w3 ⟨rfl, hb3⟩
  refine ⟨_, rfl, ?_⟩
  have HB9 := Lib.hid (HB8.out.trans (hb3.mono HB8.out.size))
  have HBx := Lib.hid (HB0.out.trans (hb3.mono HB0.out.size))
  refine hK.out _ _ ⟨pw_cell_below hb3 (hHeld.1), pw_cell_below hb3 (hHeld.2.1), pw_cell_below hb3 (hHeld.2.2.1), pw_cell_below hb3 (hHeld.2.2.2.1), pw_cell_below hb3 (hHeld.2.2.2.2)⟩ (fun hHeld => ?_)
  clear hK K
  refine norm_ (a' := ?_) ?_ ?_
  rotate_left
  · show Act.put _ (some 9) _ = _
    simp only [Act.put, List.setIfInBounds_toArray, List.set_cons_zero, List.set_cons_succ, i64_w, i32_w]
    rfl
  refine pure_ (i := 3) (N := some 10) (v := ?_) (a' := ?_) #[true, true, true, true, false, false, false, false, false, false, false, false, false, false, false, false, false, false, false, false] rfl rfl (any_of HT_.out (by kernel_rfl)) (fun _ _ _ h => h) (Or.inl ⟨by rfl, ?_⟩) ?_ ?_
  rotate_left
  · intro w'
    go_simp
    with_reducible rfl
  rotate_left
  · simp only [Act.put, List.setIfInBounds_toArray, List.set_cons_zero, List.set_cons_succ, i64_w, i32_w]
    rfl
  refine pure_ (i := 4) (N := some 11) (v := ?_) (a' := ?_) #[true, true, true, true, true, false, false, false, false, false, false, false, false, false, false, false, false, false, false, false] rfl rfl (any_of HT_.out (by kernel_rfl)) (fun _ _ _ h => h) (Or.inl ⟨by rfl, ?_⟩) ?_ ?_
  rotate_left
  · intro w'
    go_simp
    with_reducible rfl
  rotate_left
  · simp only [Act.put, List.setIfInBounds_toArray, List.set_cons_zero, List.set_cons_succ, i64_w, i32_w]
    rfl
  refine pure_ (i := 5) (N := some 12) (v := ?_) (a' := ?_) #[true, true, true, true, true, true, false, false, false, false, false, false, false, false, false, false, false, false, false, false] rfl rfl (any_of HT_.out (by kernel_rfl)) (fun _ _ _ h => h) (Or.inl ⟨by rfl, ?_⟩) ?_ ?_
  rotate_left
  · intro w'
    go_simp
    with_reducible rfl
  rotate_left
  · simp only [Act.put, List.setIfInBounds_toArray, List.set_cons_zero, List.set_cons_succ, i64_w, i32_w]
    rfl
  refine pure_ (i := 7) (N := some 14) (v := ?_) (a' := ?_) #[true, true, true, true, true, true, false, true, false, false, false, false, false, false, false, false, false, false, false, false] rfl rfl (any_of HT_.out (by kernel_rfl)) (fun _ _ _ h => h) (Or.inl ⟨by rfl, ?_⟩) ?_ ?_
  rotate_left
  · intro w'
    go_simp
    with_reducible rfl
  rotate_left
  · simp only [Act.put, List.setIfInBounds_toArray, List.set_cons_zero, List.set_cons_succ, i64_w, i32_w]
    rfl
  refine pure_ (i := 12) (N := some 19) (v := ?_) (a' := ?_) #[true, true, true, true, true, true, false, true, false, false, false, false, true, false, false, false, false, false, false, false] rfl rfl (any_of HT_.out (by kernel_rfl)) (fun _ _ _ h => h) (Or.inl ⟨by rfl, ?_⟩) ?_ ?_
  rotate_left
  · intro w'
    go_simp
    with_reducible rfl
  rotate_left
  · simp only [Act.put, List.setIfInBounds_toArray, List.set_cons_zero, List.set_cons_succ, i64_w, i32_w]
    rfl
  refine take_ (i := 6) (N := some 13) (v := ?_) (a' := ?_) #[true, true, true, true, true, true, true, true, false, false, false, false, true, false, false, false, false, false, false, false] rfl rfl (take_ofW HT_.out HW_.out (by kernel_rfl)) (fun _ _ _ h => h) (Or.inl ⟨by rfl, ?_⟩) hHeld ?_ ?_
  rotate_left
  · rintro w' ⟨s0, s1, s2, s3, s4⟩
    go_simp
    with_reducible rfl
  rotate_left
  · simp only [Act.put, List.setIfInBounds_toArray, List.set_cons_zero, List.set_cons_succ, i64_w, i32_w]
    rfl
  refine take_ (i := 8) (N := some 15) (v := ?_) (a' := ?_) #[true, true, true, true, true, true, true, true, true, false, false, false, true, false, false, false, false, false, false, false] rfl rfl (take_ofW HT_.out HW_.out (by kernel_rfl)) (fun _ _ _ h => h) (Or.inl ⟨by rfl, ?_⟩) hHeld ?_ ?_
  rotate_left
  · rintro w' ⟨s0, s1, s2, s3, s4⟩
    go_simp
    with_reducible rfl
  rotate_left
  · simp only [Act.put, List.setIfInBounds_toArray, List.set_cons_zero, List.set_cons_succ, i64_w, i32_w]
    rfl
  refine pure_ (i := 9) (N := some 16) (v := ?_) (a' := ?_) #[true, true, true, true, true, true, true, true, true, true, false, false, true, false, false, false, false, false, false, false] rfl rfl (any_of HT_.out (by kernel_rfl)) (fun _ _ _ h => h) (Or.inl ⟨by rfl, ?_⟩) ?_ ?_
  rotate_left
  · intro w'
    go_simp
    with_reducible rfl
  rotate_left
  · simp only [Act.put, List.setIfInBounds_toArray, List.set_cons_zero, List.set_cons_succ, i64_w, i32_w]
    rfl
  refine pure_ (i := 10) (N := some 17) (v := ?_) (a' := ?_) #[true, true, true, true, true, true, true, true, true, true, true, false, true, false, false, false, false, false, false, false] rfl rfl (any_of HT_.out (by kernel_rfl)) (fun _ _ _ h => h) (Or.inl ⟨by rfl, ?_⟩) ?_ ?_
  rotate_left
  · intro w'
    go_simp
    with_reducible rfl
  rotate_left
  · simp only [Act.put, List.setIfInBounds_toArray, List.set_cons_zero, List.set_cons_succ, i64_w, i32_w]
    rfl
  refine pure_ (i := 11) (N := some 18) (v := ?_) (a' := ?_) #[true, true, true, true, true, true, true, true, true, true, true, true, true, false, false, false, false, false, false, false] rfl rfl (any_of HT_.out (by kernel_rfl)) (fun _ _ _ h => h) (Or.inl ⟨by rfl, ?_⟩) ?_ ?_
  rotate_left
  · intro w'
    go_simp
    with_reducible rfl
  rotate_left
  · simp only [Act.put, List.setIfInBounds_toArray, List.set_cons_zero, List.set_cons_succ, i64_w, i32_w]
    rfl
  refine take_ (i := 13) (N := some 20) (v := ?_) (a' := ?_) #[true, true, true, true, true, true, true, true, true, true, true, true, true, true, false, false, false, false, false, false] rfl rfl (take_ofW HT_.out HW_.out (by kernel_rfl)) (fun _ _ _ h => h) (Or.inl ⟨by rfl, ?_⟩) hHeld ?_ ?_
  rotate_left
  · rintro w' ⟨s0, s1, s2, s3, s4⟩
    go_simp
    with_reducible rfl
  rotate_left
  · simp only [Act.put, List.setIfInBounds_toArray, List.set_cons_zero, List.set_cons_succ, i64_w, i32_w]
    rfl
  refine pure_ (i := 14) (N := some 21) (v := ?_) (a' := ?_) #[true, true, true, true, true, true, true, true, true, true, true, true, true, true, true, false, false, false, false, false] rfl rfl (any_of HT_.out (by kernel_rfl)) (fun _ _ _ h => h) (Or.inl ⟨by rfl, ?_⟩) ?_ ?_
  rotate_left
  · intro w'
    go_simp
    with_reducible rfl
  rotate_left
  · simp only [Act.put, List.setIfInBounds_toArray, List.set_cons_zero, List.set_cons_succ, i64_w, i32_w]
    rfl
  refine pure_ (i := 15) (N := some 22) (v := ?_) (a' := ?_) #[true, true, true, true, true, true, true, true, true, true, true, true, true, true, true, true, false, false, false, false] rfl rfl (any_of HT_.out (by kernel_rfl)) (fun _ _ _ h => h) (Or.inl ⟨by rfl, ?_⟩) ?_ ?_
  rotate_left
  · intro w'
    go_simp
    with_reducible rfl
  rotate_left
  · simp only [Act.put, List.setIfInBounds_toArray, List.set_cons_zero, List.set_cons_succ, i64_w, i32_w]
    rfl
  refine pure_ (i := 16) (N := some 23) (v := ?_) (a' := ?_) #[true, true, true, true, true, true, true, true, true, true, true, true, true, true, true, true, true, false, false, false] rfl rfl (any_of HT_.out (by kernel_rfl)) (fun _ _ _ h => h) (Or.inl ⟨by rfl, ?_⟩) ?_ ?_
  rotate_left
  · intro w'
    go_simp
    with_reducible rfl
  rotate_left
  · simp only [Act.put, List.setIfInBounds_toArray, List.set_cons_zero, List.set_cons_succ, i64_w, i32_w]
    rfl
  refine take_ (i := 17) (N := some 24) (v := ?_) (a' := ?_) #[true, true, true, true, true, true, true, true, true, true, true, true, true, true, true, true, true, true, false, false] rfl rfl (take_ofW HT_.out HW_.out (by kernel_rfl)) (fun _ _ _ h => h) (Or.inl ⟨by rfl, ?_⟩) hHeld ?_ ?_
  rotate_left
  · rintro w' ⟨s0, s1, s2, s3, s4⟩
    go_simp
    with_reducible rfl
  rotate_left
  · simp only [Act.put, List.setIfInBounds_toArray, List.set_cons_zero, List.set_cons_succ, i64_w, i32_w]
    rfl
  refine pure_ (i := 18) (N := some 25) (v := ?_) (a' := ?_) #[true, true, true, true, true, true, true, true, true, true, true, true, true, true, true, true, true, true, true, false] rfl rfl (any_of HT_.out (by kernel_rfl)) (fun _ _ _ h => h) (Or.inl ⟨by rfl, ?_⟩) ?_ ?_
  rotate_left
  · intro w'
    go_simp
    with_reducible rfl
  rotate_left
  · simp only [Act.put, List.setIfInBounds_toArray, List.set_cons_zero, List.set_cons_succ, i64_w, i32_w]
    rfl
  refine pure_ (i := 19) (N := some 26) (v := ?_) (a' := ?_) #[true, true, true, true, true, true, true, true, true, true, true, true, true, true, true, true, true, true, true, true] rfl rfl (any_of HT_.out (by kernel_rfl)) (fun _ _ _ h => h) (Or.inl ⟨by rfl, ?_⟩) ?_ ?_
  rotate_left
  · intro w'
    go_simp
    with_reducible rfl
  rotate_left
  · simp only [Act.put, List.setIfInBounds_toArray, List.set_cons_zero, List.set_cons_succ, i64_w, i32_w]
    rfl
  refine done_ (done_of HT_.out (by kernel_rfl)) ?_
  have HB9' := HB9
  clear hb3 hHeld HT_ HW_ hwl hix
  go_wp2
  go_loopw [5] (fun i wr => ∃ k : Nat, k ≤ l.length ∧ i = .int .i64 k ∧ Hid (Below wx.heap.size wx wr)) (fun i _ => l.length - (intOf i).toNat)
  case atStart => exact ⟨0, Nat.zero_le _, rfl, Lib.hid HBx.out⟩
  case round =>
    obtain ⟨k, hk, rfl, HB⟩ := hrel
    have q1 := cel_old HB.out k1
    have q3 := cel_old HB.out k3
    have HBw := Lib.hid (HBX.out.trans (HB.out.mono HBX.out.size))
    by_cases hlt : k < l.length
    · obtain ⟨ad, A4, c4, rfl, h1, h2, h3, h4, h5, h6, h7⟩ := kVn_rd (Kd.C_below HC.out HBw.out) k hlt
      obtain ⟨A4', c4', m4, hl4, d4, rfl, n4⟩ := owned_at (HG.out.below HBw.out) k hlt
      have hm4 := HX.out _ (List.getElem_mem hlt)
      rw [rdV_at hlt] at m4 hl4 n4 hm4
      clear h1 h2 h3 h4 h7
      generalize (rdV l k).pairs.length = m at *
      obtain ⟨i1, hi1, _⟩ := info_parts pr_info
      have hc1 := cut_up (P := Try.prog) 46 60 .i64 Try.underlying46 hi1 (some d4) m c4' ((m : Int) + 1) (by omega) (by omega)
      rw [show ((m : Int) + 1).toNat = m + 1 by omega] at hc1
      clear hi1
      go_wp2
      go_roundw
      case rel => exact ⟨k + 1, by omega, by go_num, HB⟩
      case measure => simp [intOf]; omega
    · obtain rfl : k = l.length := by omega
      go_wp2
      go_ret
      exact ⟨rfl, HBw.out⟩
end Go.Proofs.Ytbhdehkdnenigaa

set_option linter.unusedVariables false
set_option linter.unusedSimpArgs false
namespace Go.Proofs.Ytbhdehkdnenigaa
open Go.RowKit Go.Proofs.YtbhdehkdnenigaaW.PrintWords
attribute [local go_sem] Vn.val Vn.with

def since (l : List Vn) (m : Int) : List Vn := l.filter fun x => decide (m ≤ x.seq)
theorem since_yes {l : List Vn} {m : Int} {k : Nat} (h : k < l.length) (hm : m ≤ (rdV l k).seq) : since (l.take (k + 1)) m = since (l.take k) m ++ [rdV l k] := by
  rw [List.take_succ_eq_append_getElem h, rdV_at h]
  simp [since, hm]
theorem since_no {l : List Vn} {m : Int} {k : Nat} (h : k < l.length) (hm : ¬ m ≤ (rdV l k).seq) : since (l.take (k + 1)) m = since (l.take k) m := by
  rw [List.take_succ_eq_append_getElem h, rdV_at h]
  simp [since, hm]
theorem since_len (l : List Vn) (m : Int) : (since l m).length ≤ l.length := List.length_filter_le _ _
theorem since_take_len (l : List Vn) (m : Int) (k : Nat) : (since (l.take k) m).length ≤ k := Nat.le_trans (since_len _ _) (by rw [List.length_take]; omega)
theorem frozen_below {w W : World} {B : Nat} (hB : Below B w W) {a : Addr} (hb : a.block < B) (h : w.frozen? a = false) : W.frozen? a = false := by rw [hB.frozen hb, h]
theorem cell_below {w W : World} {B : Nat} (hB : Below B w W) {a : Addr} {v : Value} (hb : a.block < B) (h : w.cell? a = some v) : W.cell? a = some v := by rw [hB.cell hb, h]
set_option maxRecDepth 100000 in
set_option maxHeartbeats 1000000 in
theorem since19_any (l : List Vn) (nx m : Int) (A : Option Addr) (c : Nat) (w : World) (hC : kVn.C w A l.length l) (hl : l.length ≤ c) (HR : Room l) (hm1 : 1 ≤ m) (hm2 : m ≤ nx) :
    Calls Try.prog 11 #[.agg #[.int .i64 nx, .slice A l.length c], .int .i64 m] w fun e w' => ∃ v, e = .returned (.tuple #[.agg #[.int .i64 m, .int .i64 nx, v], .int .i64 0]) ∧ kVn.R 48 w' w.heap.size (fun _ => True) v (since l m) ∧ Below w.heap.size w w' := by
  have HC := Lib.hid hC
  have hml := hC.2.1
  clear hC
  have hlen := HR.len
  have t1 : decide (m < 1) = false := by simp; omega
  have t2 : decide (nx < m) = false := by simp; omega
  go_enter Try.func11, Try.ntmps11
  go_wp2
  go_loopw [7] (fun i wr => ∃ (k : Nat) (A1 : Option Addr) (c1 : Nat), k ≤ l.length ∧ i = .int .i64 k ∧ wr.cell? ⟨w.heap.size + 1 + 1, 0, none⟩ = some (.int .i64 m) ∧ wr.cell? ⟨w.heap.size + 1 + 1, 1, none⟩ = some (.int .i64 nx) ∧ wr.cell? ⟨w.heap.size + 1 + 1, 2, none⟩ = some (.slice A1 (since (l.take k) m).length c1) ∧ (∀ j, wr.frozen? ⟨w.heap.size + 1 + 1, j, none⟩ = false) ∧ w.heap.size + 3 ≤ wr.heap.size ∧ Hid (kVn.R 48 wr (w.heap.size + 3) (fun _ => True) (.slice A1 (since (l.take k) m).length c1) (since (l.take k) m)) ∧ Below (w.heap.size + 2) ((w.alloc (.cells #[.int .i64 nx, .slice A l.length c] 24)).alloc (.cells #[.int .i64 0, .int .i64 0, .slice none 0 0] 27)) wr) (fun i _ => l.length - (intOf i).toNat)
  case atStart => exact ⟨0, none, 0, Nat.zero_le _, rfl, by simp [go_sem], by simp [go_sem], by simp [go_sem, since], fun j => by simp [go_sem], by simp [go_sem], Kd.R_nil _ _ _ _ _, (Below.refl _ _).alloc (by simp [go_sem]) _⟩
  case round =>
    obtain ⟨k, A1, c1, hk, rfl, d0, d1, d2, fd, hs3, HL, hbw⟩ := hrel
    have m1 := box2_a hbw (i := 1) rfl
    have HCw := Kd.C_below HC.out (box2_below hbw)
    have htl := since_take_len l m k
    by_cases hlt : k < l.length
    · obtain ⟨ad, A4, c4, rfl, h1, h2, h3, h4, h5, h6, h7⟩ := kVn_rd HCw k hlt
      have hp32 := HR.pairs _ (rdV_mem hlt)
      by_cases hq : m ≤ (rdV l k).seq
      · have hnext := since_yes hlt hq
        generalize rdV l k = x at *
        have b3 : decide (m ≤ x.seq) = true := decide_eq_true hq
        have HS := fun w' h => Lib.hid (own_any x A4 c4 w' (Kd.C_below h7 h) h6 (by omega))
        have HN := Lib.hid hnext
        clear HCw h7 hnext hq
        go_wp2
        go_region_law (first | (refine Kd.R_append_step kVn (w.heap.size + 3) (by simp [Region.wanted]) (.tmp 39) (.tmp 46) 22 48 _ 72 rfl Try.underlying22 vn_info rfl (by decide) (by decide) (.slice A1 (since (l.take k) m).length c1) (since (l.take k) m) x _ (fun _ => True) (fun k => wr.heap.size ≤ k) (by simp [Act.eval, Act.put]) (by simp [Act.eval, Act.put]) (elem_M HV.out hs3) (new_ne HL.out) (fun _ _ => trivial) (Kd.R_below HL.out hb3) (Below.refl _ _) (Nat.le_trans hs3 hb3.size) (by omega) ?_; intro v1 w1 hR hB hg hat; rw [← HN.out] at hR; obtain ⟨A5, c5, rfl⟩ := Kd.R_slice hR; have HL1 := Lib.hid hR; have f0 := cell_below hB (show w.heap.size + 1 + 1 < w.heap.size + 3 by omega) (pw_cell_below hb3 d0); have f1 := cell_below hB (show w.heap.size + 1 + 1 < w.heap.size + 3 by omega) (pw_cell_below hb3 d1); have f2 := cell_below hB (show w.heap.size + 1 + 1 < w.heap.size + 3 by omega) (pw_cell_below hb3 d2); have ff : ∀ j, w1.frozen? ⟨w.heap.size + 1 + 1, j, none⟩ = false := fun j => frozen_below hB (show w.heap.size + 1 + 1 < w.heap.size + 3 by omega) (frozen_below hb3 (show w.heap.size + 1 + 1 < wr.heap.size by omega) (fd j)); clear hR hg hat) | (go_simp; go_at_call 29; refine (HS _ (below_drewN (Below.refl _ _) 1)).out.mono ?_; rintro e w' ⟨v, rfl, hv, hb2⟩; have HV := Lib.hid hv; clear hv; have hb3 : Below wr.heap.size wr w' := (below_drewN (Below.refl _ _) 1).trans hb2; have e2 := pw_cell_below hb3 d2; have e3 := fun o => pw_cell_below (below1 w' o) e2))
        all_goals go_wp2
        all_goals go_roundw
        all_goals first
          | (case measure => simp [intOf]; omega)
          | skip
        all_goals
          have hz : w.heap.size + 3 ≤ w1.heap.size := Nat.le_trans hs3 (Nat.le_trans hb3.size hB.size)
          refine ⟨k + 1, A5, c5, by omega, by go_num, by simp [go_sem, f0], by simp [go_sem, f1], by simp [go_sem, f2], fun j => by simp [go_sem, ff], by simpa [go_sem] using hz, ?_, ((hbw.trans (hb3.mono (by omega))).trans (hB.mono (by omega))).setCell (by simp) _⟩
          exact Kd.R_mono (Kd.R_far (p := ⟨w.heap.size + 1 + 1, 2, none⟩) (ok := fun k => w.heap.size + 3 ≤ k) (Kd.R_mono (Kd.R_bound HL1.out) (fun k hk => hk.2.1)) (by intro k hk; show k ≠ w.heap.size + 1 + 1; omega) _) (fun _ _ => trivial)
      · have hnext := since_no hlt hq
        generalize rdV l k = x at *
        have b3 : decide (m ≤ x.seq) = false := decide_eq_false hq
        have HN := Lib.hid hnext
        clear HCw h7 hnext hq
        go_wp2
        go_roundw
        case rel => exact ⟨k + 1, A1, c1, by omega, by go_num, d0, d1, by rw [HN.out]; exact d2, fd, hs3, by rw [HN.out]; exact HL, hbw⟩
        case measure => simp [intOf]; omega
    · obtain rfl : k = l.length := by omega
      have hL := HL.out
      rw [List.take_length] at hL d2
      have HL2 := Lib.hid hL
      have b0 := box2_b hbw (i := 0) rfl
      have b1 := box2_b hbw (i := 1) rfl
      have b2 := box2_b hbw (i := 2) rfl
      have fb := box2_fb hbw
      clear HCw hL HL
      go_wp2
      have hR2 : kVn.R 48 wr (w.heap.size + 3) (fun k => w.heap.size + 3 ≤ k) (.slice A1 (since l m).length c1) (since l m) := Kd.R_mono (Kd.R_bound HL2.out) (fun k hk => hk.2.1)
      refine bodyPost_ret (v := .tuple #[.agg #[.int .i64 m, .int .i64 nx, .slice A1 (since l m).length c1], .int .i64 0]) (by simp [results, Try.results11, go_sem, b0, b1, b2]) rfl ?_
      refine ⟨_, rfl, ?_, ?_⟩
      · refine Kd.R_lower (Kd.R_mono (Kd.R_far (Kd.R_far (Kd.R_far hR2 ?_ _) ?_ _) ?_ _) (fun _ _ => trivial)) (by omega)
        all_goals (intro k hk; show k ≠ _; simp only; omega)
      · exact ((((box2_below hbw).setCell (by simp) _).setCell (by simp) _).setCell (by simp) _)
end Go.Proofs.Ytbhdehkdnenigaa

set_option linter.unusedVariables false
set_option linter.unusedSimpArgs false
namespace Go.Proofs.Ytbhdehkdnenigaa
open Go.RowKit Go.Proofs.YtbhdehkdnenigaaW.PrintWords
attribute [local go_sem] Vn.val Vn.with

theorem alloc_size (w : World) (o : Obj) : (w.alloc o).heap.size = w.heap.size + 1 := by simp [go_sem]
/-- the box of a loop's variable is written: what was there before is as it was -/
theorem box_set {w wr : World} {o : Obj} (hb : Below (w.alloc o).heap.size (w.alloc o) wr) {i : Nat} (u : Value) : Below w.heap.size w (wr.setCell ⟨w.heap.size, i, none⟩ u) := (box_below hb).setCell (Nat.le_refl _) u
/-- a version whose pairs were made behind its box, its box written, as an element to be appended -/
theorem elem_set {W' : World} {base n i : Nat} {x : Vn} {v : Value} {N : Nat} (h : kPr.R 60 W' N (fun _ => True) v x.pairs) (hN : N = n + 1) (hb : base ≤ n) (u : Value) :
    kVn.M (W'.setCell ⟨n, i, none⟩ u) base (fun k => n + 1 ≤ k) x [.string x.key, .int .i64 x.seq, .bool x.gone, .string x.data, v] :=
  kVn_mkM _ _ _ x (Kd.R_lower (Kd.R_far (p := ⟨n, i, none⟩) (Kd.R_mono (Kd.R_bound h) (fun k hk => by have := hk.2.1; omega)) (fun k hk => by show k ≠ n; omega) u) (by omega))
set_option maxRecDepth 100000 in
set_option maxHeartbeats 1000000 in
theorem added_S (l : List Vn) (m : Int) (A : Option Addr) (c : Nat) (w : World) (hC : kVn.C w A l.length l) (hl : l.length ≤ c) (HR : Room l) :
    Calls Try.prog 28 #[.slice none 0 0, .slice A l.length c, .int .i64 m] w fun e w' => ∃ v, e = .returned v ∧ Kd.S kVn 48 w' w.heap.size (fun k => w.heap.size ≤ k) v (since l m) ∧ Below w.heap.size w w' := by
  have HC := Lib.hid hC
  have hml := hC.2.1
  clear hC
  have hlen := HR.len
  go_enter Try.func28, Try.ntmps28
  go_wp2
  go_loopw [0, 11] (fun lv i wr => ∃ k : Nat, k ≤ l.length ∧ i = .int .i64 k ∧ Hid (Kd.S kVn 48 wr w.heap.size (fun k => w.heap.size ≤ k) lv (since (l.take k) m)) ∧ Below w.heap.size w wr) (fun _ i _ => l.length - (intOf i).toNat)
  case atStart => exact ⟨0, Nat.zero_le _, rfl, Kd.S_nil _ _ _ _ _, Below.refl _ _⟩
  case round =>
    obtain ⟨k, hk, rfl, HL, hbw⟩ := hrel
    have HCw := Kd.C_below HC.out hbw
    have htl := since_take_len l m k
    by_cases hlt : k < l.length
    · obtain ⟨ad, A4, c4, rfl, h1, h2, h3, h4, h5, h6, h7⟩ := kVn_rd HCw k hlt
      have hp32 := HR.pairs _ (rdV_mem hlt)
      by_cases hq : m ≤ (rdV l k).seq
      · have hnext := since_yes hlt hq
        generalize rdV l k = x at *
        have b3 : decide (m ≤ x.seq) = true := decide_eq_true hq
        have HS := fun w' h => Lib.hid (clone_any x.pairs A4 c4 w' (Kd.C_below h7 h) h6 (by omega))
        have HN := Lib.hid hnext
        have hl72 : ((since (l.take k) m).length + 1) * 72 ≤ 140737488355328 := by omega
        clear HCw h7 hnext hq
        go_wp2_with (first | (go_at_call 41; refine (HS _ (below1 _ _)).out.mono ?_; rintro e w' ⟨v, rfl, hv, hb2⟩; obtain ⟨A5, c5, rfl⟩ := Kd.R_slice hv; have HV := Lib.hid hv; clear hv; have x0 := box_cell hb2 (i := 0) rfl; have x1 := box_cell hb2 (i := 1) rfl; have x2 := box_cell hb2 (i := 2) rfl; have x3 := box_cell hb2 (i := 3) rfl; have x4 := box_cell hb2 (i := 4) rfl; have xf : ∀ j, w'.frozen? ⟨wr.heap.size, j, none⟩ = false := fun j => frozen_below hb2 (by simp [go_sem]) (by simp [go_sem])) | (at_builtin; refine Kd.S_append kVn w.heap.size (W := w'.setCell ⟨wr.heap.size, 4, none⟩ (.slice A5 x.pairs.length c5)) rfl (.tmp 23) (.tmp 25) 22 48 _ 72 rfl Try.underlying22 vn_info rfl (by decide) (by decide) _ (since (l.take k) m) x _ (fun k => w.heap.size ≤ k) (fun k => wr.heap.size + 1 ≤ k) rfl ?hx (elem_set HV.out (alloc_size _ _) hbw.size _) (fun k hk => ⟨Nat.le_trans hbw.size (Nat.le_of_succ_le hk), (new_ne (Kd.S_R HL.out) k (Nat.le_of_succ_le hk)).2⟩) (fun k hk => Nat.le_trans (Nat.le_trans hbw.size (box_set hb2 _).size) hk) (Kd.S_below (Kd.S_mono (Kd.S_bound HL.out) (fun k hk => (⟨hk.1, fun h => by have := hk.2.2.1; omega⟩ : w.heap.size ≤ k ∧ ¬ wr.heap.size + 1 ≤ k))) (box_set hb2 _)) (hbw.trans ((box_set hb2 _).mono hbw.size)) (Nat.le_trans hbw.size (box_set hb2 _).size) hl72 ?hn; (case hx => simp [Act.eval, go_sem]); intro v1 w1 hR hB hg hat; rw [← HN.out] at hR; have HL1 := Lib.hid hR; clear hR hg hat))
        go_roundw
        case rel => exact ⟨k + 1, by omega, by go_num, HL1.out, hB⟩
        case measure => simp [intOf]; omega
      · have hnext := since_no hlt hq
        generalize rdV l k = x at *
        have b3 : decide (m ≤ x.seq) = false := decide_eq_false hq
        have HN := Lib.hid hnext
        clear HCw h7 hnext hq
        go_wp2
        go_roundw
        case rel => exact ⟨k + 1, by omega, by go_num, by rw [HN.out]; exact Kd.S_below HL.out (below1 _ _), hbw.alloc hbw.size _⟩
        case measure => simp [intOf]; omega
    · obtain rfl : k = l.length := by omega
      have hL := HL.out
      rw [List.take_length] at hL
      have HL2 := Lib.hid hL
      clear HCw hL HL
      go_wp2
      go_ret
      exact ⟨_, rfl, HL2.out, hbw⟩
def noDelta : Value := .agg #[.int .i64 0, .int .i64 0, .slice none 0 0]
set_option maxRecDepth 100000 in
set_option maxHeartbeats 1000000 in
theorem since_S (l : List Vn) (nx m : Int) (A : Option Addr) (c : Nat) (w : World) (hC : kVn.C w A l.length l) (hl : l.length ≤ c) (HR : Room l) (hm1 : 1 ≤ m) (hm2 : m ≤ nx) :
    Calls Try.prog 9 #[.agg #[.int .i64 nx, .slice A l.length c], .int .i64 m] w fun e w' => ∃ v, e = .returned (.tuple #[.agg #[.int .i64 m, .int .i64 nx, v], .int .i64 0]) ∧ Kd.S kVn 48 w' w.heap.size (fun k => w.heap.size ≤ k) v (since l m) ∧ Below w.heap.size w w' := by
  have t1 : decide (m < 1) = false := by simp; omega
  have t2 : decide (nx < m) = false := by simp; omega
  have HA := fun w' h => Lib.hid (added_S l m A c w' (Kd.C_below hC h) hl HR)
  clear hC
  go_enter Try.func9, Try.ntmps9
  have hsz : w.heap.size + 2 ≤ ((w.alloc (.cells #[.int .i64 nx, .slice A l.length c] 24)).alloc (.cells #[.int .i64 0, .int .i64 0, .slice none 0 0] 27)).heap.size := by simp [go_sem]
  go_wp2
  go_region_with (go_at_call 28; refine (HA _ (below_drewN (below2 _ _ _) 1)).out.mono ?_; rintro e w' ⟨v, rfl, hv, hb2⟩; obtain ⟨A1, c1, rfl⟩ := Kd.S_slice hv; have HV := Lib.hid hv; clear hv; have hB : Below (w.heap.size + 2) ((w.alloc (.cells #[.int .i64 nx, .slice A l.length c] 24)).alloc (.cells #[.int .i64 0, .int .i64 0, .slice none 0 0] 27)) w' := (below_drewN (Below.refl _ _) 1).trans (hb2.mono hsz); have m0 := box2_a hB (i := 0) rfl; have m1 := box2_a hB (i := 1) rfl; have b0 := box2_b hB (i := 0) rfl; have b1 := box2_b hB (i := 1) rfl; have b2 := box2_b hB (i := 2) rfl; have fb := box2_fb hB)
  all_goals go_wp2
  all_goals
    have hR2 : Kd.S kVn 48 w' (w.heap.size + 2) (fun k => w.heap.size + 2 ≤ k) (.slice A1 (since l m).length c1) (since l m) := Kd.S_lower (Kd.S_mono (Kd.S_bound HV.out) (fun k hk => Nat.le_trans hsz hk.2.1)) hsz
    refine bodyPost_ret (v := .tuple #[.agg #[.int .i64 m, .int .i64 nx, .slice A1 (since l m).length c1], .int .i64 0]) (by simp [results, Try.results9, go_sem, b0, b1, b2, Act.put]) rfl ?_
    refine ⟨_, rfl, ?_, ?_⟩
    · refine Kd.S_lower (Kd.S_mono (Kd.S_far (Kd.S_far (Kd.S_far hR2 ?_ _) ?_ _) ?_ _) (fun k hk => by omega)) (by omega)
      all_goals (intro k hk; show k ≠ _; simp only; omega)
    · exact ((((box2_below hB).setCell (by simp) _).setCell (by simp) _).setCell (by simp) _)
theorem since_any (l : List Vn) (nx m : Int) (A : Option Addr) (c : Nat) (w : World) (hC : kVn.C w A l.length l) (hl : l.length ≤ c) (HR : Room l) (hm1 : 1 ≤ m) (hm2 : m ≤ nx) :
    Calls Try.prog 9 #[.agg #[.int .i64 nx, .slice A l.length c], .int .i64 m] w fun e w' => ∃ v, e = .returned (.tuple #[.agg #[.int .i64 m, .int .i64 nx, v], .int .i64 0]) ∧ kVn.R 48 w' w.heap.size (fun _ => True) v (since l m) ∧ Below w.heap.size w w' := by
  refine (since_S l nx m A c w hC hl HR hm1 hm2).mono ?_
  rintro e w' ⟨v, he, hS, hb⟩
  exact ⟨v, he, Kd.R_mono (Kd.S_R hS) (fun _ _ => trivial), hb⟩
theorem since_bad (l : List Vn) (nx m : Int) (A : Option Addr) (c : Nat) (w : World) (h : m < 1 ∨ nx < m) :
    Calls Try.prog 9 #[.agg #[.int .i64 nx, .slice A l.length c], .int .i64 m] w fun e w' => e = .returned (.tuple #[noDelta, .int .i64 1]) ∧ Below w.heap.size w w' := by
  by_cases h1 : m < 1
  · have t1 : decide (m < 1) = true := by simp; omega
    go_enter Try.func9, Try.ntmps9
    go_wp2
    refine bodyPost_ret (v := .tuple #[noDelta, .int .i64 1]) (by simp [results, Try.results9, go_sem, noDelta]) rfl ?_
    exact ⟨rfl, below2 _ _ _⟩
  · have t1 : decide (m < 1) = false := by simp; omega
    have t2 : decide (nx < m) = true := by simp; omega
    go_enter Try.func9, Try.ntmps9
    go_wp2
    refine bodyPost_ret (v := .tuple #[noDelta, .int .i64 1]) (by simp [results, Try.results9, go_sem, noDelta]) rfl ?_
    exact ⟨rfl, below2 _ _ _⟩
end Go.Proofs.Ytbhdehkdnenigaa

set_option linter.unusedVariables false
set_option linter.unusedSimpArgs false
namespace Go.Proofs.Ytbhdehkdnenigaa
open Go.RowKit Go.Proofs.YtbhdehkdnenigaaW.PrintWords
attribute [local go_sem] Vn.val Vn.with

set_option maxRecDepth 100000 in
set_option maxHeartbeats 1000000 in
theorem same19_any (l m : List Vn) (sa na sb nb : Int) (A B : Option Addr) (c d : Nat) (w : World) (hC : kVn.C w A l.length l) (hD : kVn.C w B m.length m) (hc : l.length ≤ c) (hd : m.length ≤ d) :
    Calls Try.prog 13 #[.agg #[.int .i64 sa, .int .i64 na, .slice A l.length c], .agg #[.int .i64 sb, .int .i64 nb, .slice B m.length d]] w fun e w' => e = .returned (.bool (sa == sb && (na == nb && sVns l m))) ∧ Below w.heap.size w w' := by
  have HS := fun w' (h : Below w.heap.size w w') => Lib.hid (same_any l m na nb A B c d w' (Kd.C_below hC h) (Kd.C_below hD h) hc hd)
  clear hC hD
  cases c0 : sa == sb with
  | false =>
    go_enter Try.func13, Try.ntmps13
    go_wp2
    go_ret
    exact ⟨by simp, below2 _ _ _⟩
  | true =>
    rw [Bool.true_and]
    generalize (na == nb && sVns l m) = r at *
    go_enter Try.func13, Try.ntmps13
    go_wp2_with (go_at_call 18; refine (HS _ (below2 _ _ _)).out.mono ?_; rintro e w' ⟨rfl, hb2⟩)
    go_ret
    exact ⟨rfl, (below2 _ _ _).trans (hb2.mono (by simp [go_sem]; omega))⟩
end Go.Proofs.Ytbhdehkdnenigaa

set_option linter.unusedVariables false
set_option linter.unusedSimpArgs false
namespace Go.Proofs.Ytbhdehkdnenigaa
open Go.RowKit Go.Proofs.YtbhdehkdnenigaaW.PrintWords
attribute [local go_sem] Vn.val Vn.with

def cmpS (a b : ByteArray) : Int := if Op.bytesLess a.toList b.toList then -1 else if Op.bytesLess b.toList a.toList then 1 else 0
def cmpI (a b : Int) : Int := if a < b then -1 else if b < a then 1 else 0
theorem nanS (a : ByteArray) (w : World) : Calls Try.prog 57 #[.string a] w fun e w' => e = .returned (.bool false) ∧ w = w' := by
  go_enter Try.func57, Try.ntmps57
  go_wp2
  go_ret
  exact ⟨by simp, rfl⟩
theorem nanI (a : Int) (w : World) : Calls Try.prog 58 #[.int .i64 a] w fun e w' => e = .returned (.bool false) ∧ w = w' := by
  go_enter Try.func58, Try.ntmps58
  go_wp2
  go_ret
  exact ⟨by simp, rfl⟩
set_option maxHeartbeats 400000 in
theorem cmpS_any (a b : ByteArray) (w : World) : Calls Try.prog 50 #[.string a, .string b] w fun e w' => e = .returned (.int .i64 (cmpS a b)) ∧ w = w' := by
  have hle := bl_le b.toList a.toList
  have hv : cmpS a b = if Op.bytesLess a.toList b.toList then -1 else if Op.bytesLess b.toList a.toList then 1 else 0 := rfl
  have hA := fun w' => Lib.hid (nanS a w')
  have hB := fun w' => Lib.hid (nanS b w')
  cases c1 : Op.bytesLess a.toList b.toList with
  | true =>
    rw [c1] at hv hle
    have HV : Hid (cmpS a b = -1) := by show _ = _; rw [hv]; rfl
    clear hv hle
    go_enter Try.func50, Try.ntmps50
    go_wp2_with fail
    refine (hA _).out.mono ?_
    rintro e1 w1 ⟨rfl, rfl⟩
    go_wp2_with fail
    refine (hB _).out.mono ?_
    rintro e2 w2 ⟨rfl, rfl⟩
    go_wp2
    go_ret
    exact ⟨ret_int HV.out.symm, rfl⟩
  | false =>
    rw [c1] at hv
    cases c2 : Op.bytesLess b.toList a.toList with
    | true =>
      rw [c2] at hv
      have c3 : (a.toList == b.toList) = false := by
        rw [beq_eq_false_iff_ne]
        intro h
        rw [h, bl_irr] at c2
        cases c2
      have HV : Hid (cmpS a b = 1) := by show _ = _; rw [hv]; rfl
      clear hv hle
      go_enter Try.func50, Try.ntmps50
      go_wp2_with fail
      refine (hA _).out.mono ?_
      rintro e1 w1 ⟨rfl, rfl⟩
      go_wp2_with fail
      refine (hB _).out.mono ?_
      rintro e2 w2 ⟨rfl, rfl⟩
      go_wp2
      go_ret
      exact ⟨ret_int HV.out.symm, rfl⟩
    | false =>
      rw [c2] at hv
      have c3 : a.toList = b.toList := by
        rcases bl_tri a.toList b.toList with h | h | h
        · rw [c1] at h; cases h
        · exact h
        · rw [c2] at h; cases h
      have c4 : (a.toList == b.toList) = true := by rw [c3]; simp
      have HV : Hid (cmpS a b = 0) := by show _ = _; rw [hv]; rfl
      clear hv hle c3
      go_enter Try.func50, Try.ntmps50
      go_wp2_with fail
      refine (hA _).out.mono ?_
      rintro e1 w1 ⟨rfl, rfl⟩
      go_wp2_with fail
      refine (hB _).out.mono ?_
      rintro e2 w2 ⟨rfl, rfl⟩
      go_wp2
      go_ret
      exact ⟨ret_int HV.out.symm, rfl⟩
set_option maxHeartbeats 400000 in
theorem cmpI_any (a b : Int) (w : World) : Calls Try.prog 51 #[.int .i64 a, .int .i64 b] w fun e w' => e = .returned (.int .i64 (cmpI a b)) ∧ w = w' := by
  have hA := fun w' => Lib.hid (nanI a w')
  have hB := fun w' => Lib.hid (nanI b w')
  have HV : Hid (cmpI a b = if a < b then -1 else if b < a then 1 else 0) := rfl
  go_enter Try.func51, Try.ntmps51
  go_wp2_with fail
  refine (hA _).out.mono ?_
  rintro e1 w1 ⟨rfl, rfl⟩
  go_wp2_with fail
  refine (hB _).out.mono ?_
  rintro e2 w2 ⟨rfl, rfl⟩
  go_wp2
  all_goals (go_ret; refine ⟨ret_int ?_, rfl⟩; rw [HV.out]; repeat' split) 
  all_goals first | rfl | omega
end Go.Proofs.Ytbhdehkdnenigaa

set_option linter.unusedVariables false
set_option linter.unusedSimpArgs false
namespace Go.Proofs.Ytbhdehkdnenigaa
open Go.RowKit Go.Proofs.YtbhdehkdnenigaaW.PrintWords
attribute [local go_sem] Vn.val Vn.with

set_option maxHeartbeats 400000 in
theorem or2_any (a b : Int) (g : Nat) (w : World) (h0 : w.cell? ⟨g, 0, none⟩ = some (.int .i64 a)) (h1 : w.cell? ⟨g, 1, none⟩ = some (.int .i64 b)) : Calls Try.prog 49 #[.slice (some ⟨g, 0, none⟩) 2 2] w fun e w' => e = .returned (.int .i64 (if a = 0 then b else a)) ∧ w = w' := by
  by_cases ha : a = 0
  · subst ha
    by_cases hb : b = 0
    · subst hb
      go_enter Try.func49, Try.ntmps49
      go_wp2
      refine wp_loop_rounds 3 ?_
      rw [rounds_succ]
      go_wp2
      rw [rounds_succ]
      go_wp2
      rw [rounds_succ]
      go_wp2
      go_ret
      exact ⟨by simp, rfl⟩
    · have b1 : (b != 0) = true := bne_iff_ne.2 hb
      have b2 : (b == 0) = false := beq_eq_false_iff_ne.2 hb
      go_enter Try.func49, Try.ntmps49
      go_wp2
      refine wp_loop_rounds 2 ?_
      rw [rounds_succ]
      go_wp2
      rw [rounds_succ]
      go_wp2
      go_ret
      exact ⟨by simp, rfl⟩
  · have b1 : (a != 0) = true := bne_iff_ne.2 ha
    have b2 : (a == 0) = false := beq_eq_false_iff_ne.2 ha
    have HE : Hid ((if a = 0 then b else a) = a) := if_neg ha
    go_enter Try.func49, Try.ntmps49
    go_wp2
    refine wp_loop_rounds 1 ?_
    rw [rounds_succ]
    go_wp2
    go_ret
    exact ⟨ret_int (by first | exact HE.out.symm | rfl), rfl⟩
def ordE (x y : Vn) : Int := if cmpS x.key y.key = 0 then cmpI x.seq y.seq else cmpS x.key y.key
set_option maxRecDepth 100000 in
set_option maxHeartbeats 1000000 in
theorem order_any (x y : Vn) (A B : Option Addr) (c d : Nat) (w : World) : Calls Try.prog 37 #[x.val A c, y.val B d] w fun e w' => e = .returned (.int .i64 (ordE x y)) ∧ Below w.heap.size w w' := by
  have HS := fun w' => Lib.hid (cmpS_any x.key y.key w')
  have HI := fun w' => Lib.hid (cmpI_any x.seq y.seq w')
  have HE : Hid (ordE x y = if cmpS x.key y.key = 0 then cmpI x.seq y.seq else cmpS x.key y.key) := rfl
  generalize cmpS x.key y.key = a at *
  generalize cmpI x.seq y.seq = b at *
  generalize ordE x y = r at *
  have HO : ∀ g w', w'.cell? ⟨g, 0, none⟩ = some (.int .i64 a) → w'.cell? ⟨g, 1, none⟩ = some (.int .i64 b) → Hid (Calls Try.prog 49 #[.slice (some ⟨g, 0, none⟩) 2 2] w' fun e w'' => e = .returned (.int .i64 r) ∧ w' = w'') := fun g w' h0 h1 => by
    have := or2_any a b g w' h0 h1
    rw [← HE.out] at this
    exact this
  go_enter Try.func37, Try.ntmps37
  go_wp2
  first
    | (go_loud (go_region_held3 (fun W => W.cell? ⟨w.heap.size, 0, none⟩ = some (.string x.key) ∧ W.cell? ⟨w.heap.size + 1, 0, none⟩ = some (.string y.key) ∧ W.cell? ⟨w.heap.size, 1, none⟩ = some (.int .i64 x.seq) ∧ W.cell? ⟨w.heap.size + 1, 1, none⟩ = some (.int .i64 y.seq))
        (first | assumption | go_keep)
        (first | (go_at_call 50; refine (HS _).out.mono ?_; rintro e w' ⟨rfl, rfl⟩) | (go_at_call 51; refine (HI _).out.mono ?_; rintro e w' ⟨rfl, rfl⟩) | (go_at_call 49; refine (HO _ _ ?h0 ?h1).out.mono ?hn; (case h0 => simp [go_sem]); (case h1 => simp [go_sem]); rintro e w' ⟨rfl, rfl⟩))))
    | fail
  all_goals go_wp2
  all_goals go_ret
  all_goals exact ⟨rfl, Below.alloc (Below.drew (below2 _ _ _)) (by simp [go_sem]; omega) _⟩
end Go.Proofs.Ytbhdehkdnenigaa

set_option linter.unusedVariables false
set_option linter.unusedSimpArgs false
namespace Go.Proofs.Ytbhdehkdnenigaa
open Go.RowKit Go.Proofs.YtbhdehkdnenigaaW.PrintWords Go.Proofs.YtbhdehkdnenigaaW.PrintLast
attribute [local go_sem] Vn.val

def mG.T3 : Bool × List (List Nat × List Nat) := (true, [([], []), ([], []), ([1], [1]), ([2], [2]), ([], []), ([4], [4]), ([5], [5]), ([0, 3, 6], [0, 3, 6]), ([7], [7])])
def mG.B3 : List Nat := [0, 0, 2, 6, 0, 16, 48, 127, 255]
theorem mG.tab3 : rtab .any (opsOf Try.f36 3) = mG.T3 := by kernel_rfl
theorem mG.bits3 : waitsOk mG.T3.2 mG.B3 = true := by kernel_rfl
def mG.T4 : Bool × List (List Nat × List Nat) := (true, [([], []), ([], []), ([1], [1]), ([2], [2]), ([3], [3]), ([0, 4], [0, 4]), ([], []), ([6], [6]), ([5, 5, 0, 1, 2, 3, 4, 5], [0, 5]), ([7, 8, 0, 1, 2, 3, 4, 5, 6, 7, 8], [1, 6, 7])])
def mG.B4 : List Nat := [0, 0, 2, 6, 14, 31, 0, 64, 63, 511]
theorem mG.tab4 : rtab .any (opsOf Try.f36 4) = mG.T4 := by kernel_rfl
theorem mG.bits4 : waitsOk mG.T4.2 mG.B4 = true := by kernel_rfl
def mG.T5 : Bool × List (List Nat × List Nat) := (true, [([], []), ([], []), ([1], [1]), ([2], [2]), ([3], [3]), ([0, 4], [0, 4]), ([], []), ([6], [6]), ([5, 5, 0, 1, 2, 3, 4, 5], [0, 5]), ([7, 8, 0, 1, 2, 3, 4, 5, 6, 7, 8], [1, 6, 7])])
def mG.B5 : List Nat := [0, 0, 2, 6, 14, 31, 0, 64, 63, 511]
theorem mG.tab5 : rtab .any (opsOf Try.f36 5) = mG.T5 := by kernel_rfl
theorem mG.bits5 : waitsOk mG.T5.2 mG.B5 = true := by kernel_rfl
theorem goesv_ {P : Program} {ops : Array Oper} {Q : Exit → Act → World → Prop} {oi : Oper} {N : Option Tmp} {a : Act} {w : World} {K : Act → World → Prop} {f : FuncId} {fn : Func} {t : Operand} {os : Array Operand} {ts : Array TypeId} (hf : P.funcs[f]? = some fn) (hname : (fn.name == "runtime.NumGoroutine") = false) (hb : fn.body.isSome = true) (args : Array Value)
    (hw : Region.wanted oi (yielded ops a.tmps) = true) (hN : oi.dst = N) (hop : oi.op = .call { callee := .value t, args := os, argTypes := ts }) (ht : a.eval t = .func (.func f) #[] #[]) (hargs : os.map a.eval = args)
    (h : Calls P f args w fun e w' => ∃ v, e = .returned v ∧ K (a.put N v) w') : if Region.wanted oi (yielded ops a.tmps) = true then Oper.wp P oi a w K Q else K (a.put N undef) w := by
  refine call_ f args hw hN ?_ h
  have he := enters_ hf hname hb args w
  have hargs2 : os.map (fun x => a.eval x) = args := hargs
  unfold execOp
  simp [hop, resolve, Deferred.ofValue, invoke, hargs, hargs2, he, ht]
/-- a row whose elements were made: what stands inside it are rows of the call's own, in elder blocks -/
def Made (qf : Nat → Int) (w : World) (b0 : Nat) (top : Nat) (A : Option Addr) (xs : List Vn) : Prop := ReadsRow ((kVq qf).M w b0 (fun k => k < top)) 5 w A xs.length xs ∧ (0 < xs.length → ∀ ad, A = some ad → ad.block < top)
theorem Made.first {qf : Nat → Int} {w : World} {b0 top : Nat} {A : Option Addr} {xs : List Vn} (h : Made qf w b0 top A xs) (hn : 0 < xs.length) :
    ∃ ad A4 c4, A = some ad ∧ w.cell? ad = some (.string (rdV xs 0).key) ∧ w.cell? ⟨ad.block, ad.off + 1, none⟩ = some (.int .i64 (rdV xs 0).seq) ∧ w.cell? ⟨ad.block, ad.off + 2, none⟩ = some (.bool (rdV xs 0).gone) ∧ w.cell? ⟨ad.block, ad.off + 3, none⟩ = some (.string (rdV xs 0).data) ∧ w.cell? ⟨ad.block, ad.off + 4, none⟩ = some (.slice A4 (rdV xs 0).pairs.length c4) ∧
      (kVq qf).M w b0 (fun k => k < top) (rdV xs 0) [.string (rdV xs 0).key, .int .i64 (rdV xs 0).seq, .bool (rdV xs 0).gone, .string (rdV xs 0).data, .slice A4 (rdV xs 0).pairs.length c4] := by
  obtain ⟨ad, rfl, hc⟩ := h.1.2.2 hn
  obtain ⟨cs, h1, h2, h3⟩ := hc 0 _ (List.getElem?_eq_getElem hn)
  rw [rdV_at hn] at h2
  obtain ⟨v, rfl, hv⟩ := kVq_openM h2
  obtain ⟨A4, c4, rfl⟩ := Kd.R_slice hv
  have e0 : ad.add (0 * 5) = ad := by simp [Addr.add]
  have g0 : w.cell? (ad.add (0 * 5)) = some (.string (rdV xs 0).key) := h3 0 _ rfl
  have g1 : w.cell? ⟨(ad.add (0 * 5)).block, (ad.add (0 * 5)).off + 1, none⟩ = some (.int .i64 (rdV xs 0).seq) := by rw [← add_field _ _ 1 (by omega)]; exact h3 1 _ rfl
  have g2 : w.cell? ⟨(ad.add (0 * 5)).block, (ad.add (0 * 5)).off + 2, none⟩ = some (.bool (rdV xs 0).gone) := by rw [← add_field _ _ 2 (by omega)]; exact h3 2 _ rfl
  have g3 : w.cell? ⟨(ad.add (0 * 5)).block, (ad.add (0 * 5)).off + 3, none⟩ = some (.string (rdV xs 0).data) := by rw [← add_field _ _ 3 (by omega)]; exact h3 3 _ rfl
  have g4 : w.cell? ⟨(ad.add (0 * 5)).block, (ad.add (0 * 5)).off + 4, none⟩ = some (.slice A4 (rdV xs 0).pairs.length c4) := by rw [← add_field _ _ 4 (by omega)]; exact h3 4 _ rfl
  rw [e0] at g0 g1 g2 g3 g4
  exact ⟨ad, A4, c4, rfl, g0, g1, g2, g3, g4, h2⟩
theorem Made.below {qf : Nat → Int} {w w1 : World} {b0 top : Nat} {A : Option Addr} {xs : List Vn} (h : Made qf w b0 top A xs) (hb : Below top w w1) : Made qf w1 b0 top A xs := by
  refine ⟨⟨h.1.1, h.1.2.1, fun hn => ?_⟩, h.2⟩
  obtain ⟨ad, e, hc⟩ := h.1.2.2 hn
  refine ⟨ad, e, fun j p hj => ?_⟩
  obtain ⟨cs, h1, h2, h3⟩ := hc j p hj
  exact ⟨cs, h1, (kVq qf).M_move (fun k hk => hb.block k hk) h2, fun i u hu => (hb.cell (by rw [add_block]; exact h.2 hn ad e)).trans (h3 i u hu)⟩
theorem made_of {qf : Nat → Int} {w : World} {b0 : Nat} {ok : Nat → Prop} {v : Value} {xs : List Vn} (h : (kVq qf).R 48 w b0 ok v xs) : ∃ A c, v = .slice A xs.length c ∧ xs.length ≤ c ∧ Made qf w b0 w.heap.size A xs := by
  obtain ⟨A, c, e, hl, hr⟩ := OwnRow.reads (Kd.R_bound h).2
  have hr2 : ReadsRow ((kVq qf).M w b0 (fun k => k < w.heap.size)) 5 w A xs.length xs := hr.imp_ (Below.refl _ _) (fun _ _ hp => (kVq qf).M_mono (fun k hk => hk.1.2.2.1) hp)
  refine ⟨A, c, e, hl, hr2, fun hn a ha => ?_⟩
  subst ha
  obtain ⟨ad, e2, hc⟩ := hr2.2.2 hn
  cases e2
  obtain ⟨cs, h1, h2, h3⟩ := hc 0 _ (List.getElem?_eq_getElem hn)
  obtain ⟨u, hu⟩ : ∃ u, cs[0]? = some u := ⟨cs[0], List.getElem?_eq_getElem (by omega)⟩
  have := World.block_lt_of_cell? w _ (h3 0 u hu)
  rwa [add_block] at this
theorem Made.drop {qf : Nat → Int} {w : World} {b0 top : Nat} {A : Option Addr} {xs : List Vn} {c m : Nat} (h : Made qf w b0 top A xs) (hm : m ≤ xs.length) (hc : xs.length ≤ c) : Made qf w b0 top (if c = m then A else A.map (·.add (m * 5))) (xs.drop m) := by
  have hl : (xs.drop m).length = xs.length - m := List.length_drop
  refine ⟨⟨rfl, by rw [hl]; have := h.1.2.1; omega, fun hp => ?_⟩, fun hp a ha => ?_⟩
  case refine_2 =>
    rw [hl] at hp
    rw [if_neg (by omega)] at ha
    obtain ⟨ad, rfl, hcell⟩ := h.1.2.2 (by omega)
    cases ha
    rw [add_block]
    exact h.2 (by omega) ad rfl
  rw [hl] at hp
  obtain ⟨ad, rfl, hcell⟩ := h.1.2.2 (by omega)
  rw [if_neg (by omega)]
  refine ⟨ad.add (m * 5), rfl, fun j p hj => ?_⟩
  rw [List.getElem?_drop] at hj
  obtain ⟨cs, h1, h2, h3⟩ := hcell (m + j) p hj
  refine ⟨cs, h1, h2, fun i u hu => ?_⟩
  rw [add_add, show m * 5 + (j * 5 + i) = (m + j) * 5 + i by omega]
  exact h3 i u hu
theorem Made.tail {qf : Nat → Int} {w : World} {b0 top : Nat} {A : Option Addr} {xs : List Vn} {c : Nat} (h : Made qf w b0 top A xs) (hn : 0 < xs.length) (hc : xs.length ≤ c) :
    ∃ A', (∀ W : World, (Instr.slice 22 (.slice A xs.length c) (some (.int .i64 1)) none none).run Try.prog W = .ok (.slice A' (xs.drop 1).length (c - 1)) W) ∧ Made qf w b0 top A' (xs.drop 1) := by
  obtain ⟨i0, hi, hz⟩ := Option.map_eq_some_iff.1 vn_info
  simp only [Prod.mk.injEq] at hz
  refine ⟨_, fun W => ?_, h.drop (m := 1) (by omega) hc⟩
  rw [cut_from 22 48 .i64 Try.underlying22 hi 5 hz.2.1 A xs.length c 1 (by decide) (by omega) W, List.length_drop]
  rfl
def mrg : List Vn → List Vn → List Vn
  | [], m => m
  | l, [] => l
  | x :: l, y :: m => if ordE y x < 0 then y :: mrg (x :: l) m else x :: mrg l (y :: m)
termination_by l m => l.length + m.length
theorem mrg_end {l m : List Vn} (h : l.length = 0 ∨ m.length = 0) : mrg l m = l ++ m := by
  rcases h with h | h
  · obtain rfl := List.eq_nil_of_length_eq_zero h
    simp [mrg]
  · obtain rfl := List.eq_nil_of_length_eq_zero h
    cases l <;> simp [mrg]
theorem cons_rd {l : List Vn} (h : 0 < l.length) : l = rdV l 0 :: l.drop 1 := by
  cases l with
  | nil => simp at h
  | cons x r => simp [rdV]
theorem mrg_y {l m : List Vn} (h1 : 0 < l.length) (h2 : 0 < m.length) (h : ordE (rdV m 0) (rdV l 0) < 0) : mrg l m = rdV m 0 :: mrg l (m.drop 1) := by
  obtain ⟨x, l, rfl⟩ : ∃ x r, l = x :: r := ⟨_, _, cons_rd h1⟩
  obtain ⟨y, m, rfl⟩ : ∃ x r, m = x :: r := ⟨_, _, cons_rd h2⟩
  rw [mrg]
  exact if_pos h
theorem mrg_x {l m : List Vn} (h1 : 0 < l.length) (h2 : 0 < m.length) (h : ¬ ordE (rdV m 0) (rdV l 0) < 0) : mrg l m = rdV l 0 :: mrg (l.drop 1) m := by
  obtain ⟨x, l, rfl⟩ : ∃ x r, l = x :: r := ⟨_, _, cons_rd h1⟩
  obtain ⟨y, m, rfl⟩ : ∃ x r, m = x :: r := ⟨_, _, cons_rd h2⟩
  rw [mrg]
  exact if_neg h
theorem own_after {v v1 : Value} {n top : Nat} (h : v1.ownBlock = v.ownBlock ∨ ∃ b, v1.ownBlock = some b ∧ n ≤ b) (hv : ∀ k, v.ownBlock = some k → top ≤ k) (hn : top ≤ n) : ∀ k, v1.ownBlock = some k → top ≤ k := fun k hk => by
  rcases h with h | ⟨b, h, hlt⟩
  · exact hv k (h.symm.trans hk)
  · have := Option.some.inj (h.symm.trans hk)
    omega
def slen : Value → Nat
  | .slice _ n _ => n
  | _ => 0
set_option maxRecDepth 100000 in
set_option maxHeartbeats 4000000 in
theorem merged_any (qf : Nat → Int) (l m : List Vn) (A B : Option Addr) (c d b0 : Nat) (w : World) (hb0 : b0 ≤ w.heap.size) (HA : Made qf w b0 w.heap.size A l) (HB : Made qf w b0 w.heap.size B m) (hl : l.length ≤ c) (hm : m.length ≤ d) (hsz : (l.length + m.length) * 72 ≤ 140737488355328) :
    Calls Try.prog 36 #[.slice A l.length c, .slice B m.length d, .func (.func 37) #[] #[]] w fun e w' => ∃ v, e = .returned v ∧ (kVq qf).R 48 w' b0 (fun _ => True) v (mrg l m) ∧ (∀ k, v.ownBlock = some k → w.heap.size ≤ k) ∧ Below w.heap.size w w' := by
  have h1 := Lib.hid HA
  have h2 := Lib.hid HB
  clear HA HB
  go_enter Try.func36, Try.ntmps36
  go_wp2
  go_loopw [0, 1, 7] (fun av bv ov wr => ∃ (l' m' o : List Vn) (A' B' : Option Addr) (c' d' : Nat), av = .slice A' l'.length c' ∧ bv = .slice B' m'.length d' ∧ l'.length ≤ c' ∧ m'.length ≤ d' ∧ Hid (Made qf wr b0 w.heap.size A' l') ∧ Hid (Made qf wr b0 w.heap.size B' m') ∧ Hid ((kVq qf).R 48 wr b0 (fun _ => True) ov o) ∧ Hid (∀ k, ov.ownBlock = some k → w.heap.size ≤ k) ∧ Hid (mrg l m = o ++ mrg l' m') ∧ o.length + l'.length + m'.length = l.length + m.length ∧ Below w.heap.size w wr) (fun av bv _ _ => slen av + slen bv)
  case atStart => exact ⟨l, m, [], A, B, c, d, rfl, rfl, hl, hm, h1, h2, Kd.R_nil _ _ _ _ _, (fun k hk => by simp [Value.ownBlock] at hk), (by show mrg l m = [] ++ mrg l m; rfl), by simp, Below.refl _ _⟩
  case round =>
    obtain ⟨l', m', o, A', B', c', d', rfl, rfl, hl', hm', HA, HB, HO, HW, HM, hlen, hbw⟩ := hrel
    by_cases q1 : 0 < l'.length
    · by_cases q2 : 0 < m'.length
      · have t1 : decide (0 < l'.length) = true := decide_eq_true q1
        have t2 : decide (0 < m'.length) = true := decide_eq_true q2
        have t3 : decide ((0 : Int) < (l'.length : Int)) = true := decide_eq_true (by omega)
        have t4 : decide ((0 : Int) < (m'.length : Int)) = true := decide_eq_true (by omega)
        obtain ⟨A'', ctA, HA2⟩ := HA.out.tail q1 hl'
        obtain ⟨B'', ctB, HB2⟩ := HB.out.tail q2 hm'
        obtain ⟨ad, A4, c4, rfl, x0, x1, x2, x3, x4, xM⟩ := HA.out.first q1
        obtain ⟨bd, B4, d4, rfl, y0, y1, y2, y3, y4, yM⟩ := HB.out.first q2
        have HY0 := fun h => Lib.hid (mrg_y q1 q2 h)
        have HX0 := fun h => Lib.hid (mrg_x q1 q2 h)
        generalize rdV l' 0 = x at *
        generalize rdV m' 0 = y at *
        have HA3 := Lib.hid HA2
        have HB3 := Lib.hid HB2
        have XM := Lib.hid xM
        have YM := Lib.hid yM
        have hda : (l'.drop 1).length = l'.length - 1 := List.length_drop
        have hdb : (m'.drop 1).length = m'.length - 1 := List.length_drop
        have hb0w : b0 ≤ wr.heap.size := Nat.le_trans hb0 hbw.size
        have HS := fun w' => Lib.hid (order_any y x B4 A4 d4 c4 w')
        clear xM yM HA2 HB2
        by_cases q : ordE y x < 0
        · have t5 : decide (ordE y x < 0) = true := decide_eq_true q
          have HM1 := HY0 q
          clear HY0 HX0
          go_wp2
          refine start_ (n := 9) (S := fun w' => w'.cell? ad = some (.string x.key) ∧ w'.cell? ⟨ad.block, ad.off + 1, none⟩ = some (.int .i64 x.seq) ∧ w'.cell? ⟨ad.block, ad.off + 2, none⟩ = some (.bool x.gone) ∧ w'.cell? ⟨ad.block, ad.off + 3, none⟩ = some (.string x.data) ∧ w'.cell? ⟨ad.block, ad.off + 4, none⟩ = some (.slice A4 x.pairs.length c4) ∧ w'.cell? bd = some (.string y.key) ∧ w'.cell? ⟨bd.block, bd.off + 1, none⟩ = some (.int .i64 y.seq) ∧ w'.cell? ⟨bd.block, bd.off + 2, none⟩ = some (.bool y.gone) ∧ w'.cell? ⟨bd.block, bd.off + 3, none⟩ = some (.string y.data) ∧ w'.cell? ⟨bd.block, bd.off + 4, none⟩ = some (.slice B4 y.pairs.length d4)) (ds := []) #[false, false, false, false, false, false, false, false, false] (by kernel_rfl) rfl rfl ⟨x0, x1, x2, x3, x4, y0, y1, y2, y3, y4⟩ (fun hHeld => ?_)
          refine with_tabW mG.tab3 mG.bits3 (fun HT_ HW_ => ?_)
          refine pure_ (i := 0) (N := some 16) (v := ?_) (a' := ?_) #[true, false, false, false, false, false, false, false, false] rfl rfl (any_of HT_.out (by kernel_rfl)) (fun _ _ _ h => h) (Or.inl ⟨by rfl, ?_⟩) ?_ ?_
          rotate_left
          · intro w'
            go_simp
            with_reducible rfl
          rotate_left
          · simp only [Act.put, List.setIfInBounds_toArray, List.set_cons_zero, List.set_cons_succ, i64_w, i32_w]
            rfl
          refine pure_ (i := 1) (N := some 17) (v := ?_) (a' := ?_) #[true, true, false, false, false, false, false, false, false] rfl rfl (any_of HT_.out (by kernel_rfl)) (fun _ _ _ h => h) (Or.inl ⟨by rfl, ?_⟩) ?_ ?_
          rotate_left
          · intro w'
            go_simp
            with_reducible rfl
          rotate_left
          · simp only [Act.put, List.setIfInBounds_toArray, List.set_cons_zero, List.set_cons_succ, i64_w, i32_w]
            rfl
          refine pure_ (i := 2) (N := some 18) (v := ?_) (a' := ?_) #[true, true, true, false, false, false, false, false, false] rfl rfl (any_of HT_.out (by kernel_rfl)) (fun _ _ _ h => h) (Or.inl ⟨by rfl, ?_⟩) ?_ ?_
          rotate_left
          · intro w'
            go_simp
            with_reducible rfl
          rotate_left
          · simp only [Act.put, List.setIfInBounds_toArray, List.set_cons_zero, List.set_cons_succ, i64_w, i32_w]
            rfl
          refine pure_ (i := 4) (N := some 20) (v := ?_) (a' := ?_) #[true, true, true, false, true, false, false, false, false] rfl rfl (any_of HT_.out (by kernel_rfl)) (fun _ _ _ h => h) (Or.inl ⟨by rfl, ?_⟩) ?_ ?_
          rotate_left
          · intro w'
            go_simp
            with_reducible rfl
          rotate_left
          · simp only [Act.put, List.setIfInBounds_toArray, List.set_cons_zero, List.set_cons_succ, i64_w, i32_w]
            rfl
          refine pure_ (i := 5) (N := some 21) (v := ?_) (a' := ?_) #[true, true, true, false, true, true, false, false, false] rfl rfl (any_of HT_.out (by kernel_rfl)) (fun _ _ _ h => h) (Or.inl ⟨by rfl, ?_⟩) ?_ ?_
          rotate_left
          · intro w'
            go_simp
            with_reducible rfl
          rotate_left
          · simp only [Act.put, List.setIfInBounds_toArray, List.set_cons_zero, List.set_cons_succ, i64_w, i32_w]
            rfl
          refine take_ (i := 3) (N := some 19) (v := ?_) (a' := ?_) #[true, true, true, true, true, true, false, false, false] rfl rfl (take_ofW HT_.out HW_.out (by kernel_rfl)) (fun _ _ _ h => h) (Or.inl ⟨by rfl, ?_⟩) hHeld ?_ ?_
          rotate_left
          · rintro w' ⟨s0, s1, s2, s3, s4, s5, s6, s7, s8, s9⟩
            go_simp
            with_reducible rfl
          rotate_left
          · simp only [Act.put, List.setIfInBounds_toArray, List.set_cons_zero, List.set_cons_succ, i64_w, i32_w]
            rfl
          refine take_ (i := 6) (N := some 22) (v := ?_) (a' := ?_) #[true, true, true, true, true, true, true, false, false] rfl rfl (take_ofW HT_.out HW_.out (by kernel_rfl)) (fun _ _ _ h => h) (Or.inl ⟨by rfl, ?_⟩) hHeld ?_ ?_
          rotate_left
          · rintro w' ⟨s0, s1, s2, s3, s4, s5, s6, s7, s8, s9⟩
            go_simp
            with_reducible rfl
          rotate_left
          · simp only [Act.put, List.setIfInBounds_toArray, List.set_cons_zero, List.set_cons_succ, i64_w, i32_w]
            rfl
          refine one_ (i := 7) (N := some 23) #[true, true, true, true, true, true, true, true, false] rfl rfl (one_of HT_.out (by kernel_rfl)) (by decide) (fun K hK => ?_)
          refine goesv_ Try.func37 (by kernel_rfl) rfl #[y.val B4 d4, x.val A4 c4] (by rfl) rfl rfl rfl (by simp only [List.map_toArray, List.map_cons, List.map_nil]; rfl) ?_
          with_reducible refine (HS _).out.mono ?_
          rintro e w3 ⟨rfl, hb⟩
          have hb3 := hb
          refine ⟨_, rfl, ?_⟩
          refine hK.out _ _ ⟨pw_cell_below hb (hHeld.1), pw_cell_below hb (hHeld.2.1), pw_cell_below hb (hHeld.2.2.1), pw_cell_below hb (hHeld.2.2.2.1), pw_cell_below hb (hHeld.2.2.2.2.1), pw_cell_below hb (hHeld.2.2.2.2.2.1), pw_cell_below hb (hHeld.2.2.2.2.2.2.1), pw_cell_below hb (hHeld.2.2.2.2.2.2.2.1), pw_cell_below hb (hHeld.2.2.2.2.2.2.2.2.1), pw_cell_below hb (hHeld.2.2.2.2.2.2.2.2.2)⟩ (fun hHeld => ?_)
          clear hK K
          refine norm_ (a' := ?_) ?_ ?_
          rotate_left
          · show Act.put _ (some 23) _ = _
            simp only [Act.put, List.setIfInBounds_toArray, List.set_cons_zero, List.set_cons_succ, i64_w, i32_w]
            rfl
          refine pure_ (i := 8) (N := some 24) (v := ?_) (a' := ?_) #[true, true, true, true, true, true, true, true, true] rfl rfl (any_of HT_.out (by kernel_rfl)) (fun _ _ _ h => h) (Or.inl ⟨by rfl, ?_⟩) ?_ ?_
          rotate_left
          · intro w'
            go_simp
            with_reducible rfl
          rotate_left
          · simp only [Act.put, List.setIfInBounds_toArray, List.set_cons_zero, List.set_cons_succ, i64_w, i32_w]
            rfl
          refine done_ (done_of HT_.out (by kernel_rfl)) ?_
          have hbw3 : Below w.heap.size w w3 := hbw.trans ((below_drewN (Below.refl _ _) 1).trans hb3 |>.mono hbw.size)
          have hb0d : b0 ≤ w3.drew.heap.size := Nat.le_trans hb0 hbw3.size
          have HO3 : (kVq qf).R 48 w3.drew b0 (fun _ => True) u7 o := Kd.R_below (Kd.R_below HO.out ((below_drewN (Below.refl _ _) 1).trans hb3)) (below_drewN (Below.refl _ _) 1)
          have YM3 : (kVq qf).M w3.drew b0 (fun k => k < w.heap.size) y [.string y.key, .int .i64 y.seq, .bool y.gone, .string y.data, .slice B4 y.pairs.length d4] := Kd.M_below YM.out (((below_drewN (Below.refl _ _) 1).trans hb3).drew)
          go_wp2
          refine start_ (n := 10) (S := fun w' => w'.cell? bd = some (.string y.key) ∧ w'.cell? ⟨bd.block, bd.off + 1, none⟩ = some (.int .i64 y.seq) ∧ w'.cell? ⟨bd.block, bd.off + 2, none⟩ = some (.bool y.gone) ∧ w'.cell? ⟨bd.block, bd.off + 3, none⟩ = some (.string y.data) ∧ w'.cell? ⟨bd.block, bd.off + 4, none⟩ = some (.slice B4 y.pairs.length d4)) (ds := [5]) #[false, false, false, false, false, false, false, false, false, false] (by kernel_rfl) rfl rfl ⟨pw_cell_below hb3 y0, pw_cell_below hb3 y1, pw_cell_below hb3 y2, pw_cell_below hb3 y3, pw_cell_below hb3 y4⟩ (fun hHeld => ?_)
          refine with_tabW mG.tab4 mG.bits4 (fun HT_ HW_ => ?_)
          refine pure_ (i := 0) (N := some 25) (v := ?_) (a' := ?_) #[true, false, false, false, false, false, false, false, false, false] rfl rfl (any_of HT_.out (by kernel_rfl)) (fun _ _ _ h => h) (Or.inl ⟨by rfl, ?_⟩) ?_ ?_
          rotate_left
          · intro w'
            go_simp
            with_reducible rfl
          rotate_left
          · simp only [Act.put, List.setIfInBounds_toArray, List.set_cons_zero, List.set_cons_succ, i64_w, i32_w]
            rfl
          refine pure_ (i := 1) (N := some 26) (v := ?_) (a' := ?_) #[true, true, false, false, false, false, false, false, false, false] rfl rfl (any_of HT_.out (by kernel_rfl)) (fun _ _ _ h => h) (Or.inl ⟨by rfl, ?_⟩) ?_ ?_
          rotate_left
          · intro w'
            go_simp
            with_reducible rfl
          rotate_left
          · simp only [Act.put, List.setIfInBounds_toArray, List.set_cons_zero, List.set_cons_succ, i64_w, i32_w]
            rfl
          refine pure_ (i := 2) (N := some 27) (v := ?_) (a' := ?_) #[true, true, true, false, false, false, false, false, false, false] rfl rfl (any_of HT_.out (by kernel_rfl)) (fun _ _ _ h => h) (Or.inl ⟨by rfl, ?_⟩) ?_ ?_
          rotate_left
          · intro w'
            go_simp
            with_reducible rfl
          rotate_left
          · simp only [Act.put, List.setIfInBounds_toArray, List.set_cons_zero, List.set_cons_succ, i64_w, i32_w]
            rfl
          refine pure_ (i := 6) (N := some 31) (v := ?_) (a' := ?_) #[true, true, true, false, false, false, true, false, false, false] rfl rfl (any_of HT_.out (by kernel_rfl)) (fun _ _ _ h => h) (Or.inl ⟨by rfl, ?_⟩) ?_ ?_
          rotate_left
          · intro w'
            go_simp
            with_reducible rfl
          rotate_left
          · simp only [Act.put, List.setIfInBounds_toArray, List.set_cons_zero, List.set_cons_succ, i64_w, i32_w]
            rfl
          refine pure_ (i := 7) (N := some 32) (v := ?_) (a' := ?_) #[true, true, true, false, false, false, true, true, false, false] rfl rfl (any_of HT_.out (by kernel_rfl)) (fun _ _ _ h => h) (Or.inl ⟨by rfl, ?_⟩) ?_ ?_
          rotate_left
          · intro w'
            go_simp
            with_reducible rfl
          rotate_left
          · simp only [Act.put, List.setIfInBounds_toArray, List.set_cons_zero, List.set_cons_succ, i64_w, i32_w]
            rfl
          refine take_ (i := 3) (N := some 28) (v := ?_) (a' := ?_) #[true, true, true, true, false, false, true, true, false, false] rfl rfl (take_ofW HT_.out HW_.out (by kernel_rfl)) (fun _ _ _ h => h) (Or.inl ⟨by rfl, ?_⟩) hHeld ?_ ?_
          rotate_left
          · rintro w' ⟨s0, s1, s2, s3, s4⟩
            go_simp
            with_reducible rfl
          rotate_left
          · simp only [Act.put, List.setIfInBounds_toArray, List.set_cons_zero, List.set_cons_succ, i64_w, i32_w]
            rfl
          refine one_ (i := 4) (N := some 29) #[true, true, true, true, true, false, true, true, false, false] rfl rfl (one_of HT_.out (by kernel_rfl)) (by decide) (fun K hK => ?_)
          refine value_ (w1 := ?_) (v := ?_) (by rfl) rfl ?_ ?_
          rotate_left 2
          · go_simp
            constructor
            · rfl
            · rfl
          refine hK.out _ _ ⟨pw_cell_below (below1 w3.drew _) (hHeld.1), pw_cell_below (below1 w3.drew _) (hHeld.2.1), pw_cell_below (below1 w3.drew _) (hHeld.2.2.1), pw_cell_below (below1 w3.drew _) (hHeld.2.2.2.1), pw_cell_below (below1 w3.drew _) (hHeld.2.2.2.2)⟩ (fun hHeld => ?_)
          clear hK K
          refine norm_ (a' := ?_) ?_ ?_
          rotate_left
          · show Act.put _ (some 29) _ = _
            simp only [Act.put, List.setIfInBounds_toArray, List.set_cons_zero, List.set_cons_succ, i64_w, i32_w]
            rfl
          refine last_ (i := 5) (N := some 30) #[true, true, true, true, true, true, true, true, false, false] rfl rfl (one_of HT_.out (by kernel_rfl)) (by decide) (fun K hK => ?_)
          refine Kd.R_append_step (kVq qf) b0 (by rfl) (.tmp 25) (.tmp 29) 22 48 _ 72 rfl Try.underlying22 vn_info rfl (show 0 < 5 by decide) (by decide) u7 o y [.string y.key, .int .i64 y.seq, .bool y.gone, .string y.data, .slice B4 y.pairs.length d4] (fun _ => True) (fun k => k < w.heap.size) rfl rfl YM3 (fun k hk => ⟨trivial, fun h => by have := HW.out k h.symm; omega⟩) (fun _ _ => trivial) HO3 (Below.refl _ _) hb0d (by omega) ?_
          intro v1 w1 hR hB hg hat
          have HR := Lib.hid hR
          have HG := Lib.hid hg
          have HAT := Lib.hid hat
          clear hR hB hg hat
          refine hK.out _ _ ?_
          clear hK K
          refine norm_ (a' := ?_) ?_ ?_
          rotate_left
          · show Act.put _ (some 30) _ = _
            simp only [Act.put, List.setIfInBounds_toArray, List.set_cons_zero, List.set_cons_succ, i64_w, i32_w]
            rfl
          refine pure_ (i := 8) (N := some 7) (v := ?_) (a' := ?_) #[true, true, true, true, true, true, true, true, true, false] rfl rfl (any_of HT_.out (by kernel_rfl)) (fun _ _ _ h => h) (Or.inl ⟨by rfl, ?_⟩) ?_ ?_
          rotate_left
          · intro w'
            go_simp
            with_reducible rfl
          rotate_left
          · simp only [Act.put, List.setIfInBounds_toArray, List.set_cons_zero, List.set_cons_succ, i64_w, i32_w]
            rfl
          refine pure_ (i := 9) (N := some 1) (v := ?_) (a' := ?_) #[true, true, true, true, true, true, true, true, true, true] rfl rfl (any_of HT_.out (by kernel_rfl)) (fun _ _ _ h => h) (Or.inl ⟨by rfl, ?_⟩) ?_ ?_
          rotate_left
          · intro w'
            go_simp
            with_reducible rfl
          rotate_left
          · simp only [Act.put, List.setIfInBounds_toArray, List.set_cons_zero, List.set_cons_succ, i64_w, i32_w]
            rfl
          refine done_ (done_of HT_.out (by kernel_rfl)) ?_
          have hwr1 : Below w.heap.size wr w1 := (((((below_drewN (Below.refl _ _) 1).trans hb3).mono hbw.size).drew).grown HG.out hbw3.size (fun k hk => HW.out k hk))
          have HN := Lib.hid (hbw.trans hwr1)
          have hat2 := own_after HAT.out HW.out hbw3.size
          have HA5 := HA.out.below hwr1
          have HB5 := HB.out.below hwr1
          have HA6 := HA3.out.below hwr1
          have HB6 := HB3.out.below hwr1
          have hmm : mrg l m = (o ++ [y]) ++ mrg l' (m'.drop 1) := by rw [HM.out, HM1.out, List.append_assoc]; rfl
          have HMM := Lib.hid hmm
          clear hmm
          go_roundw
          case rel =>
            exact ⟨_, _, _, _, _, _, _, _, _, _, _, _, _, _, _, _, _, _, _, _, _, _, _, _, _, _, _, _, _, _, _, _, _, _, _, _, ⟨l', (m'.drop 1), o ++ [y], some ad, B'', c', d' - 1, by first | rfl | (rfl), by first | rfl | (rw [hdb]), hl', by omega, HA5, HB6, HR, hat2, HMM, by rw [List.length_append, hdb, List.length_singleton]; omega, HN.out⟩, rfl⟩
          case measure => simp [slen]; omega
        · have t5 : decide (ordE y x < 0) = false := decide_eq_false q
          have HM1 := HX0 q
          clear HY0 HX0
          go_wp2
          refine start_ (n := 9) (S := fun w' => w'.cell? ad = some (.string x.key) ∧ w'.cell? ⟨ad.block, ad.off + 1, none⟩ = some (.int .i64 x.seq) ∧ w'.cell? ⟨ad.block, ad.off + 2, none⟩ = some (.bool x.gone) ∧ w'.cell? ⟨ad.block, ad.off + 3, none⟩ = some (.string x.data) ∧ w'.cell? ⟨ad.block, ad.off + 4, none⟩ = some (.slice A4 x.pairs.length c4) ∧ w'.cell? bd = some (.string y.key) ∧ w'.cell? ⟨bd.block, bd.off + 1, none⟩ = some (.int .i64 y.seq) ∧ w'.cell? ⟨bd.block, bd.off + 2, none⟩ = some (.bool y.gone) ∧ w'.cell? ⟨bd.block, bd.off + 3, none⟩ = some (.string y.data) ∧ w'.cell? ⟨bd.block, bd.off + 4, none⟩ = some (.slice B4 y.pairs.length d4)) (ds := []) #[false, false, false, false, false, false, false, false, false] (by kernel_rfl) rfl rfl ⟨x0, x1, x2, x3, x4, y0, y1, y2, y3, y4⟩ (fun hHeld => ?_)
          refine with_tabW mG.tab3 mG.bits3 (fun HT_ HW_ => ?_)
          refine pure_ (i := 0) (N := some 16) (v := ?_) (a' := ?_) #[true, false, false, false, false, false, false, false, false] rfl rfl (any_of HT_.out (by kernel_rfl)) (fun _ _ _ h => h) (Or.inl ⟨by rfl, ?_⟩) ?_ ?_
          rotate_left
          · intro w'
            go_simp
            with_reducible rfl
          rotate_left
          · simp only [Act.put, List.setIfInBounds_toArray, List.set_cons_zero, List.set_cons_succ, i64_w, i32_w]
            rfl
          refine pure_ (i := 1) (N := some 17) (v := ?_) (a' := ?_) #[true, true, false, false, false, false, false, false, false] rfl rfl (any_of HT_.out (by kernel_rfl)) (fun _ _ _ h => h) (Or.inl ⟨by rfl, ?_⟩) ?_ ?_
          rotate_left
          · intro w'
            go_simp
            with_reducible rfl
          rotate_left
          · simp only [Act.put, List.setIfInBounds_toArray, List.set_cons_zero, List.set_cons_succ, i64_w, i32_w]
            rfl
          refine pure_ (i := 2) (N := some 18) (v := ?_) (a' := ?_) #[true, true, true, false, false, false, false, false, false] rfl rfl (any_of HT_.out (by kernel_rfl)) (fun _ _ _ h => h) (Or.inl ⟨by rfl, ?_⟩) ?_ ?_
          rotate_left
          · intro w'
            go_simp
            with_reducible rfl
          rotate_left
          · simp only [Act.put, List.setIfInBounds_toArray, List.set_cons_zero, List.set_cons_succ, i64_w, i32_w]
            rfl
          refine pure_ (i := 4) (N := some 20) (v := ?_) (a' := ?_) #[true, true, true, false, true, false, false, false, false] rfl rfl (any_of HT_.out (by kernel_rfl)) (fun _ _ _ h => h) (Or.inl ⟨by rfl, ?_⟩) ?_ ?_
          rotate_left
          · intro w'
            go_simp
            with_reducible rfl
          rotate_left
          · simp only [Act.put, List.setIfInBounds_toArray, List.set_cons_zero, List.set_cons_succ, i64_w, i32_w]
            rfl
          refine pure_ (i := 5) (N := some 21) (v := ?_) (a' := ?_) #[true, true, true, false, true, true, false, false, false] rfl rfl (any_of HT_.out (by kernel_rfl)) (fun _ _ _ h => h) (Or.inl ⟨by rfl, ?_⟩) ?_ ?_
          rotate_left
          · intro w'
            go_simp
            with_reducible rfl
          rotate_left
          · simp only [Act.put, List.setIfInBounds_toArray, List.set_cons_zero, List.set_cons_succ, i64_w, i32_w]
            rfl
          refine take_ (i := 3) (N := some 19) (v := ?_) (a' := ?_) #[true, true, true, true, true, true, false, false, false] rfl rfl (take_ofW HT_.out HW_.out (by kernel_rfl)) (fun _ _ _ h => h) (Or.inl ⟨by rfl, ?_⟩) hHeld ?_ ?_
          rotate_left
          · rintro w' ⟨s0, s1, s2, s3, s4, s5, s6, s7, s8, s9⟩
            go_simp
            with_reducible rfl
          rotate_left
          · simp only [Act.put, List.setIfInBounds_toArray, List.set_cons_zero, List.set_cons_succ, i64_w, i32_w]
            rfl
          refine take_ (i := 6) (N := some 22) (v := ?_) (a' := ?_) #[true, true, true, true, true, true, true, false, false] rfl rfl (take_ofW HT_.out HW_.out (by kernel_rfl)) (fun _ _ _ h => h) (Or.inl ⟨by rfl, ?_⟩) hHeld ?_ ?_
          rotate_left
          · rintro w' ⟨s0, s1, s2, s3, s4, s5, s6, s7, s8, s9⟩
            go_simp
            with_reducible rfl
          rotate_left
          · simp only [Act.put, List.setIfInBounds_toArray, List.set_cons_zero, List.set_cons_succ, i64_w, i32_w]
            rfl
          refine one_ (i := 7) (N := some 23) #[true, true, true, true, true, true, true, true, false] rfl rfl (one_of HT_.out (by kernel_rfl)) (by decide) (fun K hK => ?_)
          refine goesv_ Try.func37 (by kernel_rfl) rfl #[y.val B4 d4, x.val A4 c4] (by rfl) rfl rfl rfl (by simp only [List.map_toArray, List.map_cons, List.map_nil]; rfl) ?_
          with_reducible refine (HS _).out.mono ?_
          rintro e w3 ⟨rfl, hb⟩
          have hb3 := hb
          refine ⟨_, rfl, ?_⟩
          refine hK.out _ _ ⟨pw_cell_below hb (hHeld.1), pw_cell_below hb (hHeld.2.1), pw_cell_below hb (hHeld.2.2.1), pw_cell_below hb (hHeld.2.2.2.1), pw_cell_below hb (hHeld.2.2.2.2.1), pw_cell_below hb (hHeld.2.2.2.2.2.1), pw_cell_below hb (hHeld.2.2.2.2.2.2.1), pw_cell_below hb (hHeld.2.2.2.2.2.2.2.1), pw_cell_below hb (hHeld.2.2.2.2.2.2.2.2.1), pw_cell_below hb (hHeld.2.2.2.2.2.2.2.2.2)⟩ (fun hHeld => ?_)
          clear hK K
          refine norm_ (a' := ?_) ?_ ?_
          rotate_left
          · show Act.put _ (some 23) _ = _
            simp only [Act.put, List.setIfInBounds_toArray, List.set_cons_zero, List.set_cons_succ, i64_w, i32_w]
            rfl
          refine pure_ (i := 8) (N := some 24) (v := ?_) (a' := ?_) #[true, true, true, true, true, true, true, true, true] rfl rfl (any_of HT_.out (by kernel_rfl)) (fun _ _ _ h => h) (Or.inl ⟨by rfl, ?_⟩) ?_ ?_
          rotate_left
          · intro w'
            go_simp
            with_reducible rfl
          rotate_left
          · simp only [Act.put, List.setIfInBounds_toArray, List.set_cons_zero, List.set_cons_succ, i64_w, i32_w]
            rfl
          refine done_ (done_of HT_.out (by kernel_rfl)) ?_
          have hbw3 : Below w.heap.size w w3 := hbw.trans ((below_drewN (Below.refl _ _) 1).trans hb3 |>.mono hbw.size)
          have hb0d : b0 ≤ w3.drew.heap.size := Nat.le_trans hb0 hbw3.size
          have HO3 : (kVq qf).R 48 w3.drew b0 (fun _ => True) u7 o := Kd.R_below (Kd.R_below HO.out ((below_drewN (Below.refl _ _) 1).trans hb3)) (below_drewN (Below.refl _ _) 1)
          have XM3 : (kVq qf).M w3.drew b0 (fun k => k < w.heap.size) x [.string x.key, .int .i64 x.seq, .bool x.gone, .string x.data, .slice A4 x.pairs.length c4] := Kd.M_below XM.out (((below_drewN (Below.refl _ _) 1).trans hb3).drew)
          go_wp2
          refine start_ (n := 10) (S := fun w' => w'.cell? ad = some (.string x.key) ∧ w'.cell? ⟨ad.block, ad.off + 1, none⟩ = some (.int .i64 x.seq) ∧ w'.cell? ⟨ad.block, ad.off + 2, none⟩ = some (.bool x.gone) ∧ w'.cell? ⟨ad.block, ad.off + 3, none⟩ = some (.string x.data) ∧ w'.cell? ⟨ad.block, ad.off + 4, none⟩ = some (.slice A4 x.pairs.length c4)) (ds := [5]) #[false, false, false, false, false, false, false, false, false, false] (by kernel_rfl) rfl rfl ⟨pw_cell_below hb3 x0, pw_cell_below hb3 x1, pw_cell_below hb3 x2, pw_cell_below hb3 x3, pw_cell_below hb3 x4⟩ (fun hHeld => ?_)
          refine with_tabW mG.tab5 mG.bits5 (fun HT_ HW_ => ?_)
          refine pure_ (i := 0) (N := some 33) (v := ?_) (a' := ?_) #[true, false, false, false, false, false, false, false, false, false] rfl rfl (any_of HT_.out (by kernel_rfl)) (fun _ _ _ h => h) (Or.inl ⟨by rfl, ?_⟩) ?_ ?_
          rotate_left
          · intro w'
            go_simp
            with_reducible rfl
          rotate_left
          · simp only [Act.put, List.setIfInBounds_toArray, List.set_cons_zero, List.set_cons_succ, i64_w, i32_w]
            rfl
          refine pure_ (i := 1) (N := some 34) (v := ?_) (a' := ?_) #[true, true, false, false, false, false, false, false, false, false] rfl rfl (any_of HT_.out (by kernel_rfl)) (fun _ _ _ h => h) (Or.inl ⟨by rfl, ?_⟩) ?_ ?_
          rotate_left
          · intro w'
            go_simp
            with_reducible rfl
          rotate_left
          · simp only [Act.put, List.setIfInBounds_toArray, List.set_cons_zero, List.set_cons_succ, i64_w, i32_w]
            rfl
          refine pure_ (i := 2) (N := some 35) (v := ?_) (a' := ?_) #[true, true, true, false, false, false, false, false, false, false] rfl rfl (any_of HT_.out (by kernel_rfl)) (fun _ _ _ h => h) (Or.inl ⟨by rfl, ?_⟩) ?_ ?_
          rotate_left
          · intro w'
            go_simp
            with_reducible rfl
          rotate_left
          · simp only [Act.put, List.setIfInBounds_toArray, List.set_cons_zero, List.set_cons_succ, i64_w, i32_w]
            rfl
          refine pure_ (i := 6) (N := some 39) (v := ?_) (a' := ?_) #[true, true, true, false, false, false, true, false, false, false] rfl rfl (any_of HT_.out (by kernel_rfl)) (fun _ _ _ h => h) (Or.inl ⟨by rfl, ?_⟩) ?_ ?_
          rotate_left
          · intro w'
            go_simp
            with_reducible rfl
          rotate_left
          · simp only [Act.put, List.setIfInBounds_toArray, List.set_cons_zero, List.set_cons_succ, i64_w, i32_w]
            rfl
          refine pure_ (i := 7) (N := some 40) (v := ?_) (a' := ?_) #[true, true, true, false, false, false, true, true, false, false] rfl rfl (any_of HT_.out (by kernel_rfl)) (fun _ _ _ h => h) (Or.inl ⟨by rfl, ?_⟩) ?_ ?_
          rotate_left
          · intro w'
            go_simp
            with_reducible rfl
          rotate_left
          · simp only [Act.put, List.setIfInBounds_toArray, List.set_cons_zero, List.set_cons_succ, i64_w, i32_w]
            rfl
          refine take_ (i := 3) (N := some 36) (v := ?_) (a' := ?_) #[true, true, true, true, false, false, true, true, false, false] rfl rfl (take_ofW HT_.out HW_.out (by kernel_rfl)) (fun _ _ _ h => h) (Or.inl ⟨by rfl, ?_⟩) hHeld ?_ ?_
          rotate_left
          · rintro w' ⟨s0, s1, s2, s3, s4⟩
            go_simp
            with_reducible rfl
          rotate_left
          · simp only [Act.put, List.setIfInBounds_toArray, List.set_cons_zero, List.set_cons_succ, i64_w, i32_w]
            rfl
          refine one_ (i := 4) (N := some 37) #[true, true, true, true, true, false, true, true, false, false] rfl rfl (one_of HT_.out (by kernel_rfl)) (by decide) (fun K hK => ?_)
          refine value_ (w1 := ?_) (v := ?_) (by rfl) rfl ?_ ?_
          rotate_left 2
          · go_simp
            constructor
            · rfl
            · rfl
          refine hK.out _ _ ⟨pw_cell_below (below1 w3.drew _) (hHeld.1), pw_cell_below (below1 w3.drew _) (hHeld.2.1), pw_cell_below (below1 w3.drew _) (hHeld.2.2.1), pw_cell_below (below1 w3.drew _) (hHeld.2.2.2.1), pw_cell_below (below1 w3.drew _) (hHeld.2.2.2.2)⟩ (fun hHeld => ?_)
          clear hK K
          refine norm_ (a' := ?_) ?_ ?_
          rotate_left
          · show Act.put _ (some 37) _ = _
            simp only [Act.put, List.setIfInBounds_toArray, List.set_cons_zero, List.set_cons_succ, i64_w, i32_w]
            rfl
          refine last_ (i := 5) (N := some 38) #[true, true, true, true, true, true, true, true, false, false] rfl rfl (one_of HT_.out (by kernel_rfl)) (by decide) (fun K hK => ?_)
          refine Kd.R_append_step (kVq qf) b0 (by rfl) (.tmp 33) (.tmp 37) 22 48 _ 72 rfl Try.underlying22 vn_info rfl (show 0 < 5 by decide) (by decide) u7 o x [.string x.key, .int .i64 x.seq, .bool x.gone, .string x.data, .slice A4 x.pairs.length c4] (fun _ => True) (fun k => k < w.heap.size) rfl rfl XM3 (fun k hk => ⟨trivial, fun h => by have := HW.out k h.symm; omega⟩) (fun _ _ => trivial) HO3 (Below.refl _ _) hb0d (by omega) ?_
          intro v1 w1 hR hB hg hat
          have HR := Lib.hid hR
          have HG := Lib.hid hg
          have HAT := Lib.hid hat
          clear hR hB hg hat
          refine hK.out _ _ ?_
          clear hK K
          refine norm_ (a' := ?_) ?_ ?_
          rotate_left
          · show Act.put _ (some 38) _ = _
            simp only [Act.put, List.setIfInBounds_toArray, List.set_cons_zero, List.set_cons_succ, i64_w, i32_w]
            rfl
          refine pure_ (i := 8) (N := some 7) (v := ?_) (a' := ?_) #[true, true, true, true, true, true, true, true, true, false] rfl rfl (any_of HT_.out (by kernel_rfl)) (fun _ _ _ h => h) (Or.inl ⟨by rfl, ?_⟩) ?_ ?_
          rotate_left
          · intro w'
            go_simp
            with_reducible rfl
          rotate_left
          · simp only [Act.put, List.setIfInBounds_toArray, List.set_cons_zero, List.set_cons_succ, i64_w, i32_w]
            rfl
          refine pure_ (i := 9) (N := some 0) (v := ?_) (a' := ?_) #[true, true, true, true, true, true, true, true, true, true] rfl rfl (any_of HT_.out (by kernel_rfl)) (fun _ _ _ h => h) (Or.inl ⟨by rfl, ?_⟩) ?_ ?_
          rotate_left
          · intro w'
            go_simp
            with_reducible rfl
          rotate_left
          · simp only [Act.put, List.setIfInBounds_toArray, List.set_cons_zero, List.set_cons_succ, i64_w, i32_w]
            rfl
          refine done_ (done_of HT_.out (by kernel_rfl)) ?_
          have hwr1 : Below w.heap.size wr w1 := (((((below_drewN (Below.refl _ _) 1).trans hb3).mono hbw.size).drew).grown HG.out hbw3.size (fun k hk => HW.out k hk))
          have HN := Lib.hid (hbw.trans hwr1)
          have hat2 := own_after HAT.out HW.out hbw3.size
          have HA5 := HA.out.below hwr1
          have HB5 := HB.out.below hwr1
          have HA6 := HA3.out.below hwr1
          have HB6 := HB3.out.below hwr1
          have hmm : mrg l m = (o ++ [x]) ++ mrg (l'.drop 1) m' := by rw [HM.out, HM1.out, List.append_assoc]; rfl
          have HMM := Lib.hid hmm
          clear hmm
          go_roundw
          case rel =>
            exact ⟨_, _, _, _, _, _, _, _, _, _, _, _, _, _, _, _, _, _, _, _, _, _, _, _, _, _, _, _, _, _, _, _, _, _, _, _, ⟨(l'.drop 1), m', o ++ [x], A'', some bd, c' - 1, d', by first | rfl | (rw [hda]), by first | rfl | (rfl), by omega, hm', HA6, HB5, HR, hat2, HMM, by rw [List.length_append, hda, List.length_singleton]; omega, HN.out⟩, rfl⟩
          case measure => simp [slen]; omega
      · have t1 : decide (0 < l'.length) = true := decide_eq_true q1
        have t2 : decide (0 < m'.length) = false := decide_eq_false q2
        have t3 : decide ((0 : Int) < (l'.length : Int)) = true := decide_eq_true (by omega)
        have t4 : decide ((0 : Int) < (m'.length : Int)) = false := decide_eq_false (by omega)
        have hme : mrg l m = (o ++ l') ++ m' := by rw [HM.out, mrg_end (.inr (by omega)), List.append_assoc]
        have HME := Lib.hid hme
        clear hme
        go_wp2_with (first | (at_builtin; refine Kd.R_append_rows (kVq qf) (Rr := (kVq qf).M wr b0 (fun k => k < w.heap.size)) (w0 := wr) b0 rfl _ _ 22 48 _ 72 rfl Try.underlying22 vn_info rfl (show 0 < 5 by decide) (by decide) u7 o l' A' l'.length c' (fun _ => True) (fun k => k < w.heap.size) rfl rfl HO.out HA.out.1 (fun _ _ h => h) (fun k hk => ⟨trivial, fun h => by have := HW.out k h.symm; omega⟩) (fun _ _ => trivial) (Below.refl _ _) (Nat.le_trans hb0 hbw.size) (by omega) ?_; intro v1 w1 hR hB hg hat; have HR1 := Lib.hid hR; have hB1 : Below w.heap.size wr w1 := (Below.refl _ _).grown hg hbw.size (fun k hk => HW.out k hk); have HW1 := Lib.hid (own_after hat HW.out hbw.size); have HB1 := HB.out.below hB1; clear hR hB hg hat) | (at_builtin; refine Kd.R_append_rows (kVq qf) (Rr := (kVq qf).M w1 b0 (fun k => k < w.heap.size)) (w0 := w1) b0 rfl _ _ 22 48 _ 72 rfl Try.underlying22 vn_info rfl (show 0 < 5 by decide) (by decide) v1 (o ++ l') m' B' m'.length d' (fun _ => True) (fun k => k < w.heap.size) rfl rfl HR1.out HB1.1 (fun _ _ h => h) (fun k hk => ⟨trivial, fun h => by have := HW1.out k h.symm; omega⟩) (fun _ _ => trivial) (Below.refl _ _) (Nat.le_trans hb0 (hbw.trans hB1).size) (by rw [List.length_append]; omega) ?_; intro v2 w2 hR hB hg hat; rw [← HME.out] at hR; have HRR := Lib.hid hR; have hB2 : Below w.heap.size w1 w2 := (Below.refl _ _).grown hg (hbw.trans hB1).size (fun k hk => HW1.out k hk); have HWW := Lib.hid (own_after hat HW1.out (hbw.trans hB1).size); have HNN := Lib.hid ((hbw.trans hB1).trans hB2); clear hR hB hg hat))
        go_ret
        exact ⟨_, rfl, HRR.out, HWW.out, HNN.out⟩
    · have t1 : decide (0 < l'.length) = false := decide_eq_false q1
      have t3 : decide ((0 : Int) < (l'.length : Int)) = false := decide_eq_false (by omega)
      have hme : mrg l m = (o ++ l') ++ m' := by rw [HM.out, mrg_end (.inl (by omega)), List.append_assoc]
      have HME := Lib.hid hme
      clear hme
      go_wp2_with (first | (at_builtin; refine Kd.R_append_rows (kVq qf) (Rr := (kVq qf).M wr b0 (fun k => k < w.heap.size)) (w0 := wr) b0 rfl _ _ 22 48 _ 72 rfl Try.underlying22 vn_info rfl (show 0 < 5 by decide) (by decide) u7 o l' A' l'.length c' (fun _ => True) (fun k => k < w.heap.size) rfl rfl HO.out HA.out.1 (fun _ _ h => h) (fun k hk => ⟨trivial, fun h => by have := HW.out k h.symm; omega⟩) (fun _ _ => trivial) (Below.refl _ _) (Nat.le_trans hb0 hbw.size) (by omega) ?_; intro v1 w1 hR hB hg hat; have HR1 := Lib.hid hR; have hB1 : Below w.heap.size wr w1 := (Below.refl _ _).grown hg hbw.size (fun k hk => HW.out k hk); have HW1 := Lib.hid (own_after hat HW.out hbw.size); have HB1 := HB.out.below hB1; clear hR hB hg hat) | (at_builtin; refine Kd.R_append_rows (kVq qf) (Rr := (kVq qf).M w1 b0 (fun k => k < w.heap.size)) (w0 := w1) b0 rfl _ _ 22 48 _ 72 rfl Try.underlying22 vn_info rfl (show 0 < 5 by decide) (by decide) v1 (o ++ l') m' B' m'.length d' (fun _ => True) (fun k => k < w.heap.size) rfl rfl HR1.out HB1.1 (fun _ _ h => h) (fun k hk => ⟨trivial, fun h => by have := HW1.out k h.symm; omega⟩) (fun _ _ => trivial) (Below.refl _ _) (Nat.le_trans hb0 (hbw.trans hB1).size) (by rw [List.length_append]; omega) ?_; intro v2 w2 hR hB hg hat; rw [← HME.out] at hR; have HRR := Lib.hid hR; have hB2 : Below w.heap.size w1 w2 := (Below.refl _ _).grown hg (hbw.trans hB1).size (fun k hk => HW1.out k hk); have HWW := Lib.hid (own_after hat HW1.out (hbw.trans hB1).size); have HNN := Lib.hid ((hbw.trans hB1).trans hB2); clear hR hB hg hat))
      go_ret
      exact ⟨_, rfl, HRR.out, HWW.out, HNN.out⟩
end Go.Proofs.Ytbhdehkdnenigaa

/-! ### 56. Four, five, six operations that may come up next, in any order -/
namespace Go.Proofs.YtbhdehkdnenigaaW.PrintLast
section
variable {P : Program} {ops : Array Oper} {Q : Exit → Act → World → Prop} {md : Region.Mode} {S : World → Prop} {ds : List Nat} {T : Bool × List (List Nat × List Nat)}
end
end Go.Proofs.YtbhdehkdnenigaaW.PrintLast

/-! ### 52. A row that stays read whatever happens to a block (a set of blocks) doesn't lie there -/
namespace Go.Proofs.YtbhdehkdnenigaaW.PrintWords
open Go.RowKit
namespace Kd
section
variable {α : Type} {d : Kd α} {W : World} {g n : Nat} {S ok : Nat → Prop} {A : Option Addr} {ad : Addr} {xs : List α}
end
end Kd
end Go.Proofs.YtbhdehkdnenigaaW.PrintWords

/-! ### 54. Behind orders that were drawn quietly: the same facts at the world's new name; a flat row's foot -/
namespace Go.Proofs.YtbhdehkdnenigaaW.PrintWords
open Go.RowKit
section
variable {w w' u : World} {m B g : Nat} {o : Obj} {row : Option Nat} {S : Nat → Prop} {a : Addr} {v : Value}
end
namespace Kd
section
variable {α : Type} {d : Kd α} {e base n m : Nat} {ok : Nat → Prop} {w w' : World} {v : Value} {A : Option Addr} {xs : List α}
end
end Kd
end Go.Proofs.YtbhdehkdnenigaaW.PrintWords

/-! ### 55. Reps told from the front, no append: for rows of one-cell elements and of wider ones -/
namespace Go.Proofs.YtbhdehkdnenigaaW.PrintWords
/-- One cell an element. -/
theorem Reps.one {α : Type} {R : α → List Value → Prop} {ps : List α} {cs : List Value} {p : α} {v : Value} (hp : R p [v]) (h : Reps R 1 ps cs) : Reps R 1 (p :: ps) (v :: cs) := by
  refine ⟨by simp [h.1], fun j q hq => ?_⟩
  cases j with
  | zero =>
    simp only [List.getElem?_cons_zero, Option.some.injEq] at hq
    subst hq
    simpa using hp
  | succ j =>
    simp only [List.getElem?_cons_succ] at hq
    have h1 := h.2 j q hq
    simpa [Nat.mul_one] using h1
/-- More cells an element: told apart by the cells' list. -/
theorem Reps.front {α : Type} {R : α → List Value → Prop} {size : Nat} {ps : List α} {cs c all : List Value} {p : α} (hp : R p c) (hc : c.length = size) (h : Reps R size ps cs) (ha : c ++ cs = all) : Reps R size (p :: ps) all := by
  subst ha
  refine ⟨by rw [List.length_append, hc, h.1, List.length_cons, Nat.succ_mul, Nat.add_comm], fun j q hq => ?_⟩
  cases j with
  | zero =>
    simp only [List.getElem?_cons_zero, Option.some.injEq] at hq
    subst hq
    rw [Nat.zero_mul, List.drop_zero, List.take_append_of_le_length (by omega), List.take_of_length_le (by omega)]
    exact hp
  | succ j =>
    simp only [List.getElem?_cons_succ] at hq
    have h1 := h.2 j q hq
    rw [Nat.succ_mul, List.drop_append, List.drop_of_length_le (by rw [hc]; exact Nat.le_add_left _ _), List.nil_append, hc, Nat.add_sub_cancel]
    exact h1
theorem Reps.c2 {α : Type} {R : α → List Value → Prop} {ps : List α} {cs : List Value} {p : α} {va vb : Value} (hp : R p [va, vb]) (h : Reps R 2 ps cs) : Reps R 2 (p :: ps) (va :: vb :: cs) := Reps.front hp rfl h rfl
theorem Reps.c3 {α : Type} {R : α → List Value → Prop} {ps : List α} {cs : List Value} {p : α} {va vb vc : Value} (hp : R p [va, vb, vc]) (h : Reps R 3 ps cs) : Reps R 3 (p :: ps) (va :: vb :: vc :: cs) := Reps.front hp rfl h rfl
theorem Reps.c4 {α : Type} {R : α → List Value → Prop} {ps : List α} {cs : List Value} {p : α} {va vb vc vd : Value} (hp : R p [va, vb, vc, vd]) (h : Reps R 4 ps cs) : Reps R 4 (p :: ps) (va :: vb :: vc :: vd :: cs) := Reps.front hp rfl h rfl
theorem Reps.c5 {α : Type} {R : α → List Value → Prop} {ps : List α} {cs : List Value} {p : α} {va vb vc vd ve : Value} (hp : R p [va, vb, vc, vd, ve]) (h : Reps R 5 ps cs) : Reps R 5 (p :: ps) (va :: vb :: vc :: vd :: ve :: cs) := Reps.front hp rfl h rfl
theorem Reps.c6 {α : Type} {R : α → List Value → Prop} {ps : List α} {cs : List Value} {p : α} {va vb vc vd ve vf : Value} (hp : R p [va, vb, vc, vd, ve, vf]) (h : Reps R 6 ps cs) : Reps R 6 (p :: ps) (va :: vb :: vc :: vd :: ve :: vf :: cs) := Reps.front hp rfl h rfl
theorem Reps.c7 {α : Type} {R : α → List Value → Prop} {ps : List α} {cs : List Value} {p : α} {va vb vc vd ve vf vg : Value} (hp : R p [va, vb, vc, vd, ve, vf, vg]) (h : Reps R 7 ps cs) : Reps R 7 (p :: ps) (va :: vb :: vc :: vd :: ve :: vf :: vg :: cs) := Reps.front hp rfl h rfl
theorem Reps.c9 {α : Type} {R : α → List Value → Prop} {ps : List α} {cs : List Value} {p : α} {va vb vc vd ve vf vg vh vi : Value} (hp : R p [va, vb, vc, vd, ve, vf, vg, vh, vi]) (h : Reps R 9 ps cs) : Reps R 9 (p :: ps) (va :: vb :: vc :: vd :: ve :: vf :: vg :: vh :: vi :: cs) := Reps.front hp rfl h rfl
theorem Reps.c10 {α : Type} {R : α → List Value → Prop} {ps : List α} {cs : List Value} {p : α} {va vb vc vd ve vf vg vh vi vj : Value} (hp : R p [va, vb, vc, vd, ve, vf, vg, vh, vi, vj]) (h : Reps R 10 ps cs) : Reps R 10 (p :: ps) (va :: vb :: vc :: vd :: ve :: vf :: vg :: vh :: vi :: vj :: cs) := Reps.front hp rfl h rfl
end Go.Proofs.YtbhdehkdnenigaaW.PrintWords

/-! ### 57. A region of open order by ONE relation over what is listed so far: each operation is shown once, whatever came up before it -/
namespace Go.Proofs.YtbhdehkdnenigaaW.PrintLast
/-- Number i is listed too. -/
def up (b : Nat → Bool) (i : Nat) : Nat → Bool := fun j => if j = i then true else b j
section
variable {P : Program} {ops : Array Oper} {Q : Exit → Act → World → Prop} {md : Region.Mode} {T : Bool × List (List Nat × List Nat)} {B : List Nat} {O : List Nat} {b : Nat → Bool} {i j n : Nat}
/-! The frame: what is listed has its destination filled. -/
end
end Go.Proofs.YtbhdehkdnenigaaW.PrintLast

namespace Go.Proofs.YtbhdehkdnenigaaW.PrintWords
open Go.RowKit
end Go.Proofs.YtbhdehkdnenigaaW.PrintWords
namespace Go.Proofs.YtbhdehkdnenigaaW.PrintLast
section
variable {ops : Array Oper} {a : Act} {o og : Oper} {g : Nat} {t : Tmp} {u : Bool}
end
end Go.Proofs.YtbhdehkdnenigaaW.PrintLast

/-! ### 58. A guarded operation whose guard is known to want it: the same goal without the guard -/
namespace Go.Proofs.YtbhdehkdnenigaaW.PrintWords
open Go.RowKit
section
variable {P : Program} {ops : Array Oper} {rest : List Oper} {o : Oper} {a : Act} {Q : Exit → Act → World → Prop} {W : World}
/-- The gate takes the guard off (hw: 'by rfl', 'by kernel_rfl': the guard's slot holds what is wanted). -/
theorem gate_guard (hw : Region.wanted o (yielded ops a.tmps) = true) (h : wpList P ops Q ({ o with guard := none } :: rest) a W) : wpList P ops Q (o :: rest) a W := by
  have h1 : Region.wanted { o with guard := none } (yielded ops a.tmps) = true := rfl
  unfold wpList at h ⊢
  rw [if_pos h1] at h
  rw [if_pos hw]
  exact h
end
end Go.Proofs.YtbhdehkdnenigaaW.PrintWords

namespace Go.Proofs.Ytbhdehkdnenigaa.PDeltaLaid
open Go.RowKit Go.Proofs.YtbhdehkdnenigaaW.PrintWords Go.Proofs.YtbhdehkdnenigaaW.PrintLast Go.Proofs.YtbhdehkdnenigaaW.PrintMore
attribute [local go_sem] max2_int min2_int max_two min_two max_three min_three max_four min_four   -- for this text's walks alone
set_option linter.unusedVariables false
set_option linter.unusedSimpArgs false



def errW : Option Int → Value
  | none => .nilIface
  | some c => .iface 0 (.int .i64 c)
theorem errW_none : errW none = .nilIface := rfl
theorem errW_some (c : Int) : errW (some c) = .iface 0 (.int .i64 c) := rfl

/-! #### struct type 60 -/
structure S60 where
  f0 : ByteArray
  f1 : ByteArray
def k60 : Kd S60 := Kd.iso (Kd.pair Kd.string Kd.string) (fun x : S60 => (x.f0, x.f1))
theorem k60_open {w : World} {x : S60} {cs : List Value} (h : k60.K w x cs) : cs = [.string x.f0, .string x.f1] := by
  obtain ⟨_, _, rfl, rfl, rfl⟩ := h
  exact rfl
theorem k60_mk (w : World) (x : S60)  : k60.K w x [.string x.f0, .string x.f1] := ⟨[.string x.f0], [.string x.f1], rfl, rfl, rfl⟩
/-! #### struct type 48 -/
structure S48 where
  f0 : ByteArray
  f1 : Int
  f2 : Bool
  f3 : ByteArray
  f4 : (List S60)
def z48 : S48 := ⟨(⟨#[]⟩ : ByteArray), (0 : Int), false, (⟨#[]⟩ : ByteArray), ([] : List S60)⟩
def k48 : Kd S48 := Kd.iso (Kd.pair Kd.string (Kd.pair (Kd.int .i64) (Kd.pair Kd.bool (Kd.pair Kd.string (Kd.slice 60 k60))))) (fun x : S48 => (x.f0, x.f1, x.f2, x.f3, x.f4))
theorem k48_open {w : World} {x : S48} {cs : List Value} (h : k48.K w x cs) : ∃ A4 c4, cs = [.string x.f0, .int .i64 x.f1, .bool x.f2, .string x.f3, .slice A4 x.f4.length c4] ∧ x.f4.length ≤ c4 ∧ k60.C w A4 x.f4.length x.f4 := by
  obtain ⟨_, _, rfl, rfl, ⟨_, _, rfl, rfl, ⟨_, _, rfl, rfl, ⟨_, _, rfl, rfl, ⟨A4, c4, rfl, l4, g4⟩⟩⟩⟩⟩ := h
  exact ⟨A4, c4, rfl, l4, g4⟩
theorem k48_mk (w : World) (x : S48) {A4 : Option Addr} {c4 : Nat} (l4 : x.f4.length ≤ c4) (g4 : k60.C w A4 x.f4.length x.f4) : k48.K w x [.string x.f0, .int .i64 x.f1, .bool x.f2, .string x.f3, .slice A4 x.f4.length c4] := ⟨[.string x.f0], [.int .i64 x.f1, .bool x.f2, .string x.f3, .slice A4 x.f4.length c4], rfl, rfl, ⟨[.int .i64 x.f1], [.bool x.f2, .string x.f3, .slice A4 x.f4.length c4], rfl, rfl, ⟨[.bool x.f2], [.string x.f3, .slice A4 x.f4.length c4], rfl, rfl, ⟨[.string x.f3], [.slice A4 x.f4.length c4], rfl, rfl, ⟨A4, c4, rfl, l4, g4⟩⟩⟩⟩⟩
theorem k48_mkM (w : World) (base : Nat) (ok : Nat → Prop) (x : S48) {v4 : Value} (g4 : k60.R 60 w base ok v4 x.f4) : k48.M w base ok x [.string x.f0, .int .i64 x.f1, .bool x.f2, .string x.f3, v4] := ⟨[.string x.f0], [.int .i64 x.f1, .bool x.f2, .string x.f3, v4], rfl, rfl, ⟨[.int .i64 x.f1], [.bool x.f2, .string x.f3, v4], rfl, rfl, ⟨[.bool x.f2], [.string x.f3, v4], rfl, rfl, ⟨[.string x.f3], [v4], rfl, rfl, ⟨v4, rfl, g4⟩⟩⟩⟩⟩
def rd_T48 (xs : List S48) (i : Int) : S48 := xs.getD i.toNat z48
theorem at_T48 {w : World} {A : Option Addr} {n : Nat} {xs : List S48} (h : Kd.C k48 w A n xs) (i : Int) (h0 : 0 ≤ i) (h1 : i < n) : ∃ ad A4 c4, A = some ad ∧ w.cell? (ad.add (i.toNat * 5)) = some (.string (rd_T48 xs i).f0) ∧ w.cell? ⟨(ad.add (i.toNat * 5)).block, (ad.add (i.toNat * 5)).off + 1, none⟩ = some (.int .i64 (rd_T48 xs i).f1) ∧ w.cell? ⟨(ad.add (i.toNat * 5)).block, (ad.add (i.toNat * 5)).off + 2, none⟩ = some (.bool (rd_T48 xs i).f2) ∧ w.cell? ⟨(ad.add (i.toNat * 5)).block, (ad.add (i.toNat * 5)).off + 3, none⟩ = some (.string (rd_T48 xs i).f3) ∧ w.cell? ⟨(ad.add (i.toNat * 5)).block, (ad.add (i.toNat * 5)).off + 4, none⟩ = some (.slice A4 (rd_T48 xs i).f4.length c4) ∧ (rd_T48 xs i).f4.length ≤ c4 ∧ k60.C w A4 (rd_T48 xs i).f4.length (rd_T48 xs i).f4 := by
  obtain ⟨ad, c, e, _, hK, hc0⟩ := Kd.C_get h z48 i h0 h1
  have hc : ∀ j u, c[j]? = some u → w.cell? (ad.add (i.toNat * 5 + j)) = some u := hc0
  obtain ⟨A4, c4, rfl, l4, g4⟩ := k48_open hK
  exact ⟨ad, A4, c4, e, hc 0 _ rfl, by rw [← add_field _ _ 1 (by omega)]; exact hc 1 _ rfl, by rw [← add_field _ _ 2 (by omega)]; exact hc 2 _ rfl, by rw [← add_field _ _ 3 (by omega)]; exact hc 3 _ rfl, by rw [← add_field _ _ 4 (by omega)]; exact hc 4 _ rfl, l4, g4⟩

end Go.Proofs.Ytbhdehkdnenigaa.PDeltaLaid

set_option linter.unusedVariables false
set_option linter.unusedSimpArgs false
namespace Go.Proofs.Ytbhdehkdnenigaa
open Go.RowKit Go.Proofs.YtbhdehkdnenigaaW.PrintWords PDeltaLaid

theorem C_map {α β : Type} {d : Kd α} {d' : Kd β} (f : α → β) (hsz : d.sz = d'.sz) {w : World} (h : ∀ x cs, d.K w x cs → d'.K w (f x) cs) {A : Option Addr} {n : Nat} {xs : List α} (hC : d.C w A n xs) : d'.C w A n (xs.map f) := by
  refine ⟨by rw [List.length_map]; exact hC.1, hC.2.1, fun hn => ?_⟩
  obtain ⟨ad, e, hc⟩ := hC.2.2 hn
  refine ⟨ad, e, fun j p hp => ?_⟩
  rw [List.getElem?_map] at hp
  obtain ⟨x, hx, rfl⟩ := Option.map_eq_some_iff.1 hp
  obtain ⟨c, hs, hr, hcell⟩ := hc j x hx
  exact ⟨c, hs.trans hsz, h _ _ hr, fun i u hu => by rw [← hsz]; exact hcell i u hu⟩
def of60 (x : S60) : Pr := ⟨x.f0, x.f1⟩
def to60 (x : Pr) : S60 := ⟨x.n, x.v⟩
def of48 (x : S48) : Vn := ⟨x.f0, x.f1, x.f2, x.f3, x.f4.map of60⟩
def to48 (x : Vn) : S48 := ⟨x.key, x.seq, x.gone, x.data, x.pairs.map to60⟩
theorem of_to60 (l : List Pr) : (l.map to60).map of60 = l := by
  rw [List.map_map]
  exact List.map_id' l
theorem of_to48 (x : Vn) : of48 (to48 x) = x := by
  show (⟨x.key, x.seq, x.gone, x.data, (x.pairs.map to60).map of60⟩ : Vn) = x
  rw [of_to60]
theorem of_to48s (l : List Vn) : (l.map to48).map of48 = l := by
  rw [List.map_map]
  exact (List.map_congr_left (fun x _ => of_to48 x)).trans (List.map_id' l)
theorem C_of60 {w : World} {A : Option Addr} {n : Nat} {xs : List S60} (h : Kd.C k60 w A n xs) : kPr.C w A n (xs.map of60) := C_map of60 rfl (fun x cs hk => by rw [k60_open hk]; exact kPr_mk w (of60 x)) h
theorem C_to60 {w : World} {A : Option Addr} {n : Nat} {xs : List Pr} (h : kPr.C w A n xs) : Kd.C k60 w A n (xs.map to60) := C_map to60 rfl (fun x cs hk => by rw [kPr_open hk]; exact k60_mk w (to60 x)) h
theorem C_of48 {w : World} {A : Option Addr} {n : Nat} {xs : List S48} (h : Kd.C k48 w A n xs) : kVn.C w A n (xs.map of48) := C_map of48 rfl (fun x cs hk => by
  obtain ⟨A4, c4, rfl, l4, g4⟩ := k48_open hk
  have := kVn_mk w (of48 x) (A := A4) (c := c4) (by simpa [of48] using l4) (by simpa [of48] using C_of60 g4)
  simpa [of48] using this) h
theorem C_to48 {w : World} {A : Option Addr} {n : Nat} {xs : List Vn} (h : kVn.C w A n xs) : Kd.C k48 w A n (xs.map to48) := C_map to48 rfl (fun x cs hk => by
  obtain ⟨A4, c4, rfl, l4, g4⟩ := kVn_open hk
  have := k48_mk w (to48 x) (A4 := A4) (c4 := c4) (by simpa [to48] using l4) (by simpa [to48] using C_to60 g4)
  simpa [to48] using this) h
def fitsB (x : Vn) : Bool := decide (x.key.size ≤ 140737488355328) && decide (x.data.size ≤ 140737488355328) && x.pairs.all (fun p => decide (p.n.size ≤ 140737488355328) && decide (p.v.size ≤ 140737488355328))
theorem fitsB_iff (x : Vn) : fitsB x = true ↔ x.Fits := by
  simp only [fitsB, Bool.and_eq_true, List.all_eq_true, decide_eq_true_eq]
  exact ⟨fun h => ⟨h.1.1, h.1.2, h.2⟩, fun h => ⟨⟨h.key, h.data⟩, h.pairs⟩⟩

namespace PDeltaLaid
def cofferref15_well.f (k : Nat) (a0_0 : ByteArray) (a0_1 : Int) (a0_2 : Bool) (a0_3 : ByteArray) (l0_4 : List (S60)) : Option (Bool) := if fitsB (of48 ⟨a0_0, a0_1, a0_2, a0_3, l0_4⟩) = true then some (wel (of48 ⟨a0_0, a0_1, a0_2, a0_3, l0_4⟩)) else none
theorem cofferref15_well.calls (k : Nat) (a0_0 : ByteArray) (a0_1 : Int) (a0_2 : Bool) (a0_3 : ByteArray) (A0_4 : Option Addr) (c0_4 : Nat) (l0_4 : List (S60)) (r : Bool) (w : World) (hr0_4 : Kd.C k60 w A0_4 l0_4.length l0_4) (hc0_4 : l0_4.length ≤ c0_4) (h : cofferref15_well.f k a0_0 a0_1 a0_2 a0_3 l0_4 = some r) :
    Calls Try.prog 30 #[.agg #[.string a0_0, .int .i64 a0_1, .bool a0_2, .string a0_3, .slice A0_4 l0_4.length c0_4]] w fun e w' => e = .returned (.bool r) ∧ Below w.heap.size w w' := by
  unfold cofferref15_well.f at h
  split at h
  · next hf =>
    cases h
    have := well_any (of48 ⟨a0_0, a0_1, a0_2, a0_3, l0_4⟩) A0_4 c0_4 w (by simpa [of48] using C_of60 hr0_4) (by simpa [of48] using hc0_4) ((fitsB_iff _).1 hf)
    simpa [of48, Vn.val] using this
  · cases h
def cofferref15_ahead.f (a0_0 : ByteArray) (a0_1 : Int) (a0_2 : Bool) (a0_3 : ByteArray) (l0_4 : List (S60)) (a1_0 : ByteArray) (a1_1 : Int) (a1_2 : Bool) (a1_3 : ByteArray) (l1_4 : List (S60)) : Option (Bool) := some (va (of48 ⟨a0_0, a0_1, a0_2, a0_3, l0_4⟩) (of48 ⟨a1_0, a1_1, a1_2, a1_3, l1_4⟩))
theorem cofferref15_ahead.calls (a0_0 : ByteArray) (a0_1 : Int) (a0_2 : Bool) (a0_3 : ByteArray) (A0_4 : Option Addr) (c0_4 : Nat) (l0_4 : List (S60)) (a1_0 : ByteArray) (a1_1 : Int) (a1_2 : Bool) (a1_3 : ByteArray) (A1_4 : Option Addr) (c1_4 : Nat) (l1_4 : List (S60)) (r : Bool) (w : World) (hr0_4 : Kd.C k60 w A0_4 l0_4.length l0_4) (hc0_4 : l0_4.length ≤ c0_4) (hr1_4 : Kd.C k60 w A1_4 l1_4.length l1_4) (hc1_4 : l1_4.length ≤ c1_4) (h : cofferref15_ahead.f a0_0 a0_1 a0_2 a0_3 l0_4 a1_0 a1_1 a1_2 a1_3 l1_4 = some r) :
    Calls Try.prog 31 #[.agg #[.string a0_0, .int .i64 a0_1, .bool a0_2, .string a0_3, .slice A0_4 l0_4.length c0_4], .agg #[.string a1_0, .int .i64 a1_1, .bool a1_2, .string a1_3, .slice A1_4 l1_4.length c1_4]] w fun e w' => e = .returned (.bool r) ∧ Below w.heap.size w w' := by
  cases h
  have := ahead15_any (of48 ⟨a0_0, a0_1, a0_2, a0_3, l0_4⟩) (of48 ⟨a1_0, a1_1, a1_2, a1_3, l1_4⟩) A0_4 A1_4 c0_4 c1_4 w
  simpa [of48, Vn.val] using this
def cofferref15_Bytes.f (k : Nat) (a0_0 : Int) (l0_1 : List (S48)) : Option (Int) := if (l0_1.map of48).all fitsB = true then some (wrap64 (bsize (l0_1.map of48))) else none
theorem cofferref15_Bytes.calls (k : Nat) (a0_0 : Int) (A0_1 : Option Addr) (c0_1 : Nat) (l0_1 : List (S48)) (r : Int) (w : World) (hr0_1 : Kd.C k48 w A0_1 l0_1.length l0_1) (hc0_1 : l0_1.length ≤ c0_1) (h : cofferref15_Bytes.f k a0_0 l0_1 = some r) :
    Calls Try.prog 21 #[.agg #[.int .i64 a0_0, .slice A0_1 l0_1.length c0_1]] w fun e w' => e = .returned (.int .i64 r) ∧ Below w.heap.size w w' := by
  unfold cofferref15_Bytes.f at h
  split at h
  · next hf =>
    cases h
    have := refBytes_any (l0_1.map of48) a0_0 A0_1 c0_1 w (by simpa using C_of48 hr0_1) (by simpa using hc0_1) (fun x hx => (fitsB_iff x).1 (List.all_eq_true.1 hf x hx))
    simpa using this
  · cases h
end PDeltaLaid
end Go.Proofs.Ytbhdehkdnenigaa
