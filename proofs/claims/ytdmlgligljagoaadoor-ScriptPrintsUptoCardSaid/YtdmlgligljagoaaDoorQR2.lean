/- Kinds: a slice whose header tells one element less than its row has (a mark stands in the spare room); rows told as other rows.
Short words for what the printed proofs say often.
Walk: the law's commands are given with marks in their spare room.
The machine side of some functions, printed for this claim: each function has the answers of a plain one.
Faces: the library's functions that the script's code calls, told in the words of the kit's print: numbers as digits, the place of a byte, a text cut at a separator.
Walks: the reader of a line's words: one word, a quoted one, a number, is all done.
What holds while a step's words are read: its struct, the text's iterator, the reader; and how each event leaves it.
Plain: a word's number: what the printed walk computes is the plain function.
Walk: a step's words, letter by letter of its form. -/
import Derived.Laws.RangeAny
import Derived.Lib.OthersKept
import Derived.Deep.LoopGhost
import Derived.Lib.Itoa
import Derived.Test.YtdmlgligljagoaaDoorQR1
set_option linter.unusedVariables false
set_option linter.unusedSimpArgs false
namespace Go.Proofs.YtdmlgligljagoaaDoor
open Go.RowKit Go.Proofs.YtdmlgligljagoaaDoorW.PrintWords PS

def shortK {α : Type} (e : Nat) (d : Kd α) : Kd (List α) where
  sz := 1
  E := e :: d.E
  K := fun w xs cs => ∃ A c, cs = [.slice A (xs.length - 1) c] ∧ xs.length ≤ c ∧ d.C w A xs.length xs
  M := fun w base ok xs cs => ∃ A c, cs = [.slice A (xs.length - 1) c] ∧ d.R e w base ok (.slice A xs.length c) xs
  K_len := by
    rintro w x cs ⟨A, c, rfl, _⟩
    rfl
  K_one := by
    rintro w x cs ⟨A, c, rfl, _⟩ u hu
    rw [List.mem_singleton.1 hu]
    rfl
  K_below := by
    rintro w w1 x cs hb ⟨A, c, rfl, hl, hr⟩
    exact ⟨A, c, rfl, hl, Kd.C_below hr hb⟩
  K_of_M := by
    rintro w base ok x cs ⟨A, c, rfl, h⟩
    obtain ⟨_, hl, hr⟩ := Kd.R_reads' h
    exact ⟨A, c, rfl, hl, hr⟩
  M_mono := by
    rintro w base ok ok' x cs hok ⟨A, c, rfl, h⟩
    exact ⟨A, c, rfl, Kd.R_mono h hok⟩
  M_bound := by
    rintro w base ok x cs ⟨A, c, rfl, h⟩
    exact ⟨A, c, rfl, Kd.R_bound h⟩
  M_move := by
    rintro w w1 base ok x cs hm ⟨A, c, rfl, h⟩
    exact ⟨A, c, rfl, Kd.R_move h hm⟩
  M_lower := by
    rintro w base base' ok x cs hb ⟨A, c, rfl, h⟩
    exact ⟨A, c, rfl, Kd.R_lower h hb⟩
section
variable {α β : Type} {d : Kd α} {d' : Kd β} {e : Nat} {w : World} {base : Nat} {ok : Nat → Prop} {v : Value} {xs : List α}
theorem R_map (g : α → β) (hs : d'.sz = d.sz) (h : ∀ w base ok x cs, d.M w base ok x cs → d'.M w base ok (g x) cs) (hr : d.R e w base ok v xs) : d'.R e w base ok v (xs.map g) := by
  obtain ⟨h0, inner, ho, hr⟩ := hr
  refine ⟨h0, inner, by rw [List.length_map, hs]; exact ho, by rw [List.length_map, hs]; exact hr.1, fun j p hj => ?_⟩
  rw [List.getElem?_map] at hj
  obtain ⟨x, hx, rfl⟩ := Option.map_eq_some_iff.1 hj
  rw [hs]
  exact h _ _ _ _ _ (hr.2 j x hx)
theorem S_map (g : α → β) (hs : d'.sz = d.sz) (h : ∀ w base ok x cs, d.M w base ok x cs → d'.M w base ok (g x) cs) (hr : Kd.S d e w base ok v xs) : Kd.S d' e w base ok v (xs.map g) := by
  obtain ⟨f, hr⟩ := hr
  refine ⟨f, ?_⟩
  have h2 := R_map (d := Kd.tag f d) (d' := Kd.tag f d') (fun p : α × Nat => (g p.1, p.2)) hs (fun w base ok x cs hx => h _ _ _ _ _ hx) hr
  have e2 : xs.zipIdx.map (fun p : α × Nat => (g p.1, p.2)) = (xs.map g).zipIdx := by
    apply List.ext_getElem?
    intro j
    simp only [List.getElem?_map, List.getElem?_zipIdx, Nat.zero_add]
    cases xs[j]? <;> rfl
  rwa [e2] at h2
end
/-! the program's command, marks behind its lists -/
def kmS : Kd S34 := Kd.iso (Kd.pair (Kd.int .i64) (Kd.pair Kd.string (Kd.pair Kd.string (Kd.pair Kd.string (Kd.pair (shortK 38 k38) (Kd.pair (Kd.int .i64) (Kd.pair (Kd.int .i64) (shortK 3 (Kd.int .i64))))))))) (fun x : S34 => (x.f0, x.f1, x.f2, x.f3, x.f4, x.f5, x.f6, x.f7))
def kmC : Kd S36 := Kd.iso (Kd.pair (Kd.int .i64) (Kd.pair (Kd.int .i64) (Kd.pair (Kd.int .i64) (Kd.pair kmS Kd.string)))) (fun x : S36 => (x.f0, x.f1, x.f2, x.f3, x.f4))
theorem kmS_open {w : World} {x : S34} {cs : List Value} (h : kmS.K w x cs) : ∃ A4 c4 A7 c7, cs = [.int .i64 x.f0, .string x.f1, .string x.f2, .string x.f3, .slice A4 (x.f4.length - 1) c4, .int .i64 x.f5, .int .i64 x.f6, .slice A7 (x.f7.length - 1) c7] ∧ x.f4.length ≤ c4 ∧ k38.C w A4 x.f4.length x.f4 ∧ x.f7.length ≤ c7 ∧ (Kd.int .i64).C w A7 x.f7.length x.f7 := by
  obtain ⟨_, _, rfl, rfl, _, _, rfl, rfl, _, _, rfl, rfl, _, _, rfl, rfl, _, _, rfl, ⟨A4, c4, rfl, l4, g4⟩, _, _, rfl, rfl, _, _, rfl, rfl, A7, c7, rfl, l7, g7⟩ := h
  exact ⟨A4, c4, A7, c7, rfl, l4, g4, l7, g7⟩
theorem kmS_openM {w : World} {base : Nat} {ok : Nat → Prop} {x : S34} {cs : List Value} (h : kmS.M w base ok x cs) : ∃ A4 c4 A7 c7, cs = [.int .i64 x.f0, .string x.f1, .string x.f2, .string x.f3, .slice A4 (x.f4.length - 1) c4, .int .i64 x.f5, .int .i64 x.f6, .slice A7 (x.f7.length - 1) c7] ∧ k38.R 38 w base ok (.slice A4 x.f4.length c4) x.f4 ∧ (Kd.int .i64).R 3 w base ok (.slice A7 x.f7.length c7) x.f7 := by
  obtain ⟨_, _, rfl, rfl, _, _, rfl, rfl, _, _, rfl, rfl, _, _, rfl, rfl, _, _, rfl, ⟨A4, c4, rfl, g4⟩, _, _, rfl, rfl, _, _, rfl, rfl, A7, c7, rfl, g7⟩ := h
  exact ⟨A4, c4, A7, c7, rfl, g4, g7⟩
theorem kmS_mkM (w : World) (base : Nat) (ok : Nat → Prop) (x : S34) {A4 : Option Addr} {c4 : Nat} (g4 : k38.R 38 w base ok (.slice A4 x.f4.length c4) x.f4) {A7 : Option Addr} {c7 : Nat} (g7 : (Kd.int .i64).R 3 w base ok (.slice A7 x.f7.length c7) x.f7) :
    kmS.M w base ok x [.int .i64 x.f0, .string x.f1, .string x.f2, .string x.f3, .slice A4 (x.f4.length - 1) c4, .int .i64 x.f5, .int .i64 x.f6, .slice A7 (x.f7.length - 1) c7] :=
  ⟨[_], _, rfl, rfl, [_], _, rfl, rfl, [_], _, rfl, rfl, [_], _, rfl, rfl, [_], _, rfl, ⟨A4, c4, rfl, g4⟩, [_], _, rfl, rfl, [_], _, rfl, rfl, A7, c7, rfl, g7⟩
theorem kmC_open {w : World} {x : S36} {cs : List Value} (h : kmC.K w x cs) : ∃ A7 c7 A10 c10, cs = [.int .i64 x.f0, .int .i64 x.f1, .int .i64 x.f2, .int .i64 x.f3.f0, .string x.f3.f1, .string x.f3.f2, .string x.f3.f3, .slice A7 (x.f3.f4.length - 1) c7, .int .i64 x.f3.f5, .int .i64 x.f3.f6, .slice A10 (x.f3.f7.length - 1) c10, .string x.f4] ∧ x.f3.f4.length ≤ c7 ∧ k38.C w A7 x.f3.f4.length x.f3.f4 ∧ x.f3.f7.length ≤ c10 ∧ (Kd.int .i64).C w A10 x.f3.f7.length x.f3.f7 := by
  obtain ⟨_, _, rfl, rfl, _, _, rfl, rfl, _, _, rfl, rfl, _, _, rfl, hs, rfl⟩ := h
  obtain ⟨A4, c4, A7, c7, rfl, l4, g4, l7, g7⟩ := kmS_open hs
  exact ⟨A4, c4, A7, c7, rfl, l4, g4, l7, g7⟩
theorem kmC_openM {w : World} {base : Nat} {ok : Nat → Prop} {x : S36} {cs : List Value} (h : kmC.M w base ok x cs) : ∃ A7 c7 A10 c10, cs = [.int .i64 x.f0, .int .i64 x.f1, .int .i64 x.f2, .int .i64 x.f3.f0, .string x.f3.f1, .string x.f3.f2, .string x.f3.f3, .slice A7 (x.f3.f4.length - 1) c7, .int .i64 x.f3.f5, .int .i64 x.f3.f6, .slice A10 (x.f3.f7.length - 1) c10, .string x.f4] ∧ k38.R 38 w base ok (.slice A7 x.f3.f4.length c7) x.f3.f4 ∧ (Kd.int .i64).R 3 w base ok (.slice A10 x.f3.f7.length c10) x.f3.f7 := by
  obtain ⟨_, _, rfl, rfl, _, _, rfl, rfl, _, _, rfl, rfl, _, _, rfl, hs, rfl⟩ := h
  obtain ⟨A4, c4, A7, c7, rfl, g4, g7⟩ := kmS_openM hs
  exact ⟨A4, c4, A7, c7, rfl, g4, g7⟩
theorem kmC_mkM (w : World) (base : Nat) (ok : Nat → Prop) (x : S36) {A7 : Option Addr} {c7 : Nat} (g7 : k38.R 38 w base ok (.slice A7 x.f3.f4.length c7) x.f3.f4) {A10 : Option Addr} {c10 : Nat} (g10 : (Kd.int .i64).R 3 w base ok (.slice A10 x.f3.f7.length c10) x.f3.f7) :
    kmC.M w base ok x [.int .i64 x.f0, .int .i64 x.f1, .int .i64 x.f2, .int .i64 x.f3.f0, .string x.f3.f1, .string x.f3.f2, .string x.f3.f3, .slice A7 (x.f3.f4.length - 1) c7, .int .i64 x.f3.f5, .int .i64 x.f3.f6, .slice A10 (x.f3.f7.length - 1) c10, .string x.f4] :=
  ⟨[_], _, rfl, rfl, [_], _, rfl, rfl, [_], _, rfl, rfl, _, [_], rfl, kmS_mkM w base ok x.f3 g7 g10, rfl⟩
/-- without the marks -/
def unm (x : S36) : S36 := ⟨x.f0, x.f1, x.f2, ⟨x.f3.f0, x.f3.f1, x.f3.f2, x.f3.f3, x.f3.f4.take (x.f3.f4.length - 1), x.f3.f5, x.f3.f6, x.f3.f7.take (x.f3.f7.length - 1)⟩, x.f4⟩
theorem kmC_unm {w : World} {base : Nat} {ok : Nat → Prop} {x : S36} {cs : List Value} (h : kmC.M w base ok x cs) : k36.M w base ok (unm x) cs := by
  obtain ⟨A7, c7, A10, c10, rfl, g7, g10⟩ := kmC_openM h
  have h7 := Kd.R_take (m := x.f3.f4.length - 1) g7 (by omega)
  have h10 := Kd.R_take (m := x.f3.f7.length - 1) g10 (by omega)
  exact k36_mkM w base ok (unm x) h7 h10
def pMark : S38 := ⟨⟨#[109, 97, 114, 107]⟩, ⟨#[]⟩⟩
def gvM (x : S57) : S36 := ⟨x.f0, x.f1, x.f2, ⟨x.f3.f0, x.f3.f1, x.f3.f2, x.f3.f3, x.f3.f4 ++ [pMark], x.f3.f5, x.f3.f6, x.f3.f7 ++ [-77]⟩, x.f4⟩
def mkC : S36 := ⟨-77, 0, 0, ⟨0, ⟨#[]⟩, ⟨#[]⟩, ⟨#[]⟩, [], 0, 0, []⟩, ⟨#[]⟩⟩
theorem gvM_mk (W : World) (base : Nat) (ok : Nat → Prop) {x0 x1 x2 s0 s5 s6 : Int} {s1 s2 s3 x4 : ByteArray} {s4 : List S38} {s7 : List Int} {A7 A10 : Option Addr} {c7 c10 : Nat} (g7 : k38.R 38 W base ok (.slice A7 (s4.length + 1) c7) (s4 ++ [pMark])) (g10 : (Kd.int .i64).R 3 W base ok (.slice A10 (s7.length + 1) c10) (s7 ++ [-77])) :
    kmC.M W base ok (gvM ⟨x0, x1, x2, ⟨s0, s1, s2, s3, s4, s5, s6, s7⟩, x4⟩) [.int .i64 x0, .int .i64 x1, .int .i64 x2, .int .i64 s0, .string s1, .string s2, .string s3, .slice A7 s4.length c7, .int .i64 s5, .int .i64 s6, .slice A10 s7.length c10, .string x4] := by
  have h := kmC_mkM W base ok (gvM ⟨x0, x1, x2, ⟨s0, s1, s2, s3, s4, s5, s6, s7⟩, x4⟩) (A7 := A7) (c7 := c7) (A10 := A10) (c10 := c10) (by simpa [gvM] using g7) (by simpa [gvM] using g10)
  simpa [gvM] using h
/-- the given list, marks behind it and behind its lists -/
def Given (w : World) (base : Nat) (ok : Nat → Prop) (A : Option Addr) (c : Nat) (l : List S57) : Prop := Kd.S kmC 36 w base ok (.slice A (l.length + 1) c) (l.map gvM ++ [mkC])
theorem rdQ_at (l : List S57) (i : Nat) (h : i < l.length) : rd_T57 l (i : Int) = l[i]'h := by unfold rd_T57; simp [h]
theorem zbl {w wr : World} {p : Addr} {v : Value} (hb : Below w.heap.size w wr) (h : w.cell? p = some v) : wr.cell? p = some v := (hb.cell (World.block_lt_of_cell? _ _ h)).trans h
theorem takeM (l : List S57) (i : Nat) (h : i < l.length) : (l.take (i + 1)).map gvM = (l.take i).map gvM ++ [gvM l[i]] := by
  rw [List.take_succ_eq_append_getElem h, List.map_append]; rfl
/-- a box of eight cells -/
theorem box8 {w : World} {g t : Nat} {a0 a1 a2 a3 a4 a5 a6 a7 : Value} (h : w.heap[g]? = some (.cells #[a0, a1, a2, a3, a4, a5, a6, a7] t (0, 0))) :
    w.cell? ⟨g, 0, none⟩ = some a0 ∧ w.cell? ⟨g, 1, none⟩ = some a1 ∧ w.cell? ⟨g, 2, none⟩ = some a2 ∧ w.cell? ⟨g, 3, none⟩ = some a3 ∧ w.cell? ⟨g, 4, none⟩ = some a4 ∧ w.cell? ⟨g, 5, none⟩ = some a5 ∧ w.cell? ⟨g, 6, none⟩ = some a6 ∧ w.cell? ⟨g, 7, none⟩ = some a7 :=
  ⟨zaa h 0, zaa h 1, zaa h 2, zaa h 3, zaa h 4, zaa h 5, zaa h 6, zaa h 7⟩
theorem box8_puts {w2 : World} {g t : Nat} {z0 z1 z2 z3 z4 z5 z6 z7 : Value} (r0 r1 r2 r3 r4 r5 r6 r7 : Value) (hb : w2.heap[g]? = some (.cells #[z0, z1, z2, z3, z4, z5, z6, z7] t (0, 0))) :
    ((((((((w2.setCell ⟨g, 0, none⟩ r0).setCell ⟨g, 1, none⟩ r1).setCell ⟨g, 2, none⟩ r2).setCell ⟨g, 3, none⟩ r3).setCell ⟨g, 4, none⟩ r4).setCell ⟨g, 5, none⟩ r5).setCell ⟨g, 6, none⟩ r6).setCell ⟨g, 7, none⟩ r7).heap[g]? = some (.cells #[r0, r1, r2, r3, r4, r5, r6, r7] t (0, 0)) := by
  have h0 := zar (cs' := #[r0, z1, z2, z3, z4, z5, z6, z7]) hb 0 r0 rfl
  have h1 := zar (cs' := #[r0, r1, z2, z3, z4, z5, z6, z7]) h0 1 r1 rfl
  have h2 := zar (cs' := #[r0, r1, r2, z3, z4, z5, z6, z7]) h1 2 r2 rfl
  have h3 := zar (cs' := #[r0, r1, r2, r3, z4, z5, z6, z7]) h2 3 r3 rfl
  have h4 := zar (cs' := #[r0, r1, r2, r3, r4, z5, z6, z7]) h3 4 r4 rfl
  have h5 := zar (cs' := #[r0, r1, r2, r3, r4, r5, z6, z7]) h4 5 r5 rfl
  have h6 := zar (cs' := #[r0, r1, r2, r3, r4, r5, r6, z7]) h5 6 r6 rfl
  exact zar (cs' := #[r0, r1, r2, r3, r4, r5, r6, r7]) h6 7 r7 rfl
theorem box8_far (w2 : World) {g : Nat} (r0 r1 r2 r3 r4 r5 r6 r7 : Value) {k : Nat} (hk : k ≠ g) :
    ((((((((w2.setCell ⟨g, 0, none⟩ r0).setCell ⟨g, 1, none⟩ r1).setCell ⟨g, 2, none⟩ r2).setCell ⟨g, 3, none⟩ r3).setCell ⟨g, 4, none⟩ r4).setCell ⟨g, 5, none⟩ r5).setCell ⟨g, 6, none⟩ r6).setCell ⟨g, 7, none⟩ r7).heap[k]? = w2.heap[k]? := by
  rw [Below.heap_setCell _ _ _ k hk, Below.heap_setCell _ _ _ k hk, Below.heap_setCell _ _ _ k hk, Below.heap_setCell _ _ _ k hk, Below.heap_setCell _ _ _ k hk, Below.heap_setCell _ _ _ k hk, Below.heap_setCell _ _ _ k hk, Below.heap_setCell _ _ _ k hk]
theorem box8_below {B : Nat} {w w2 : World} {g : Nat} (r0 r1 r2 r3 r4 r5 r6 r7 : Value) (hb : Below B w w2) (hg : B ≤ g) :
    Below B w ((((((((w2.setCell ⟨g, 0, none⟩ r0).setCell ⟨g, 1, none⟩ r1).setCell ⟨g, 2, none⟩ r2).setCell ⟨g, 3, none⟩ r3).setCell ⟨g, 4, none⟩ r4).setCell ⟨g, 5, none⟩ r5).setCell ⟨g, 6, none⟩ r6).setCell ⟨g, 7, none⟩ r7) :=
  (((((((hb.setCell hg _).setCell hg _).setCell hg _).setCell hg _).setCell hg _).setCell hg _).setCell hg _).setCell hg _
end Go.Proofs.YtdmlgligljagoaaDoor

namespace Go.Proofs.YtdmlgligljagoaaDoor.PS
open Go.RowKit Go.Proofs.YtdmlgligljagoaaDoorW.PrintWords Go.Proofs.YtdmlgligljagoaaDoorW.PrintLast
/-- what a region has run: bit i of b tells the operation i -/
def tm (n b : Nat) : Array Bool := ((List.range n).map fun i => b.testBit i).toArray
/-- how an activation's values are put -/
theorem aw : (∀ (a : Act) (dst : Option Tmp) (v : Value), a.put dst v = match dst with
    | some d => { a with tmps := a.tmps.setIfInBounds d v }
    | none => a) ∧ (∀ (l : List Value) (i : Nat) (v : Value), l.toArray.setIfInBounds i v = (l.set i v).toArray) ∧ (∀ (x : Value) (l : List Value) (v : Value), (x :: l).set 0 v = v :: l) ∧ (∀ (x : Value) (l : List Value) (i : Nat) (v : Value), (x :: l).set (i + 1) v = x :: l.set i v) ∧ (∀ n : Int, IntKind.i64.wrap n = wrap64 n) ∧ (∀ n : Int, IntKind.i32.wrap n = wrap32 n) :=
  ⟨fun a dst v => by cases dst <;> rfl, fun l i v => by simp, fun _ _ _ => rfl, fun _ _ _ _ => rfl, i64_w, i32_w⟩
/-- an elder cell -/
theorem co {w w1 : World} {p : Addr} {v : Value} (hb : Below w.heap.size w w1) (h : w.cell? p = some v) : w1.cell? p = some v := (hb.cell (World.block_lt_of_cell? _ _ h)).trans h
end Go.Proofs.YtdmlgligljagoaaDoor.PS

set_option linter.unusedVariables false
set_option linter.unusedSimpArgs false
namespace Go.Proofs.YtdmlgligljagoaaDoor
open Go.RowKit Go.Proofs.YtdmlgligljagoaaDoorW.PrintWords Go.Proofs.YtdmlgligljagoaaDoorW.PrintLast Go.Proofs.YtdmlgligljagoaaDoorW.PrintMore PS
def gvT12 : Bool × List (List Nat × List Nat) := (true, [([], []), ([0], [0]), ([], []), ([2], [2]), ([], []), ([4], [4]), ([], []), ([6], [6]), ([], []), ([], []), ([9], [9]), ([10], [10]), ([8, 11], [8, 11]), ([], []), ([13], [13]), ([], []), ([15], [15]), ([], []), ([], []), ([18], [18]), ([19], [19]), ([17, 20], [17, 20]), ([1, 3, 5, 7, 12, 14, 16, 21], [1, 3, 5, 7, 12, 14, 16, 21]), ([], []), ([23, 22, 0, 1, 2, 3, 4, 5, 6, 7, 8, 9, 10, 11, 12, 13, 14, 15, 16, 17, 18, 19, 20, 21, 22, 23], [22, 23])])
def gvB12 : List Nat := [0, 1, 0, 4, 0, 16, 0, 64, 0, 0, 512, 1536, 3840, 0, 8192, 0, 32768, 0, 0, 262144, 786432, 1966080, 4194303, 0, 16777215]
theorem gvtab12 : rtab .any (opsOf Tryd.f9 12) = gvT12 := by kernel_rfl
theorem gvbits12 : waitsOk gvT12.2 gvB12 = true := by kernel_rfl
def gvT13 : Bool × List (List Nat × List Nat) := (true, [([], []), ([], []), ([], []), ([1, 2], [1, 2]), ([3], [3]), ([4], [4]), ([], []), ([], []), ([6, 7], [6, 7]), ([8], [8]), ([9], [9]), ([], []), ([], []), ([11, 12], [11, 12]), ([13], [13]), ([14], [14]), ([], []), ([], []), ([], []), ([17, 18], [17, 18]), ([19], [19]), ([20], [20]), ([5, 10, 15, 16, 21], [5, 10, 15, 16, 21]), ([22], [22]), ([0, 23], [0, 23]), ([24, 24, 0, 1, 2, 3, 4, 5, 6, 7, 8, 9, 10, 11, 12, 13, 14, 15, 16, 17, 18, 19, 20, 21, 22, 23, 24], [0, 24])])
def gvB13 : List Nat := [0, 0, 0, 6, 14, 30, 0, 0, 192, 448, 960, 0, 0, 6144, 14336, 30720, 0, 0, 0, 393216, 917504, 1966080, 4194302, 8388606, 16777215, 33554431]
theorem gvtab13 : rtab .any (opsOf Tryd.f9 13) = gvT13 := by kernel_rfl
theorem gvbits13 : waitsOk gvT13.2 gvB13 = true := by kernel_rfl
set_option maxRecDepth 100000 in
set_option maxHeartbeats 4000000 in
theorem given_m (l : List S57) (A : Option Addr) (c : Nat) (w : World) (hC : Kd.C k57 w A l.length l) (hc : l.length ≤ c) (hlen : l.length ≤ 1048576) (hx : ∀ x ∈ l, x.f3.f4.length ≤ 1048576 ∧ x.f3.f7.length ≤ 1048576) :
    Calls Tryd.prog 9 #[.slice A l.length c] w fun e w' => ∃ A' c', e = .returned (.slice A' l.length c') ∧ Given w' w.heap.size (fun k => w.heap.size ≤ k) A' c' l ∧ Below w.heap.size w w' := by
  have HC := Lib.hid hC
  have HX := Lib.hid hx
  clear hC hx
  go_enter Tryd.func9, Tryd.ntmps9
  go_wp2
  go_loopw [3, 4] (fun v i wr => ∃ k : Nat, k ≤ l.length ∧ i = .int .i64 k ∧ Hid (Kd.S kmC 36 wr w.heap.size (fun k => w.heap.size ≤ k) v ((l.take k).map gvM)) ∧ Hid (Below w.heap.size w wr)) (fun _ i _ => l.length - (intOf i).toNat)
  case atStart => exact ⟨0, Nat.zero_le _, rfl, Lib.hid (Kd.S_nil _ _ _ _ _), Lib.hid (Below.refl _ _)⟩
  case round =>
    obtain ⟨k, hk, rfl, HS, HB⟩ := hrel
    by_cases hlt : k < l.length
    · obtain ⟨ad, A7, c7, A10, c10, hA, a0, a1, a2, a3, a4, a5, a6, a7, a8, a9, a10, a11, l7, r7, l10, r10⟩ := at_T57 HC.out (k : Int) (by omega) (by omega)
      rw [Int.toNat_natCast, rdQ_at l k hlt] at a0 a1 a2 a3 a4 a5 a6 a7 a8 a9 a10 a11
      rw [rdQ_at l k hlt] at l7 r7 l10 r10
      obtain ⟨hm4, hm7⟩ := HX.out _ (List.getElem_mem hlt)
      have HN := Lib.hid (takeM l k hlt)
      have HL := Lib.hid (show ((l.take k).map gvM).length = k by rw [List.length_map, List.length_take]; omega)
      have HR7 := Lib.hid (Kd.C_below r7 HB.out)
      have HR10 := Lib.hid (Kd.C_below r10 HB.out)
      clear l7 r7 l10 r10
      generalize l[k] = x at *
      obtain ⟨x0, x1, x2, ⟨s0, s1, s2, s3, s4, s5, s6, s7⟩, x4⟩ := x
      dsimp only at a0 a1 a2 a3 a4 a5 a6 a7 a8 a9 a10 a11 hm4 hm7
      subst hA
      have HA := Lib.hid (⟨a0, a1, a2, a11⟩ : _ ∧ _ ∧ _ ∧ _)
      replace a0 := zbl HB.out a0
      replace a1 := zbl HB.out a1
      replace a2 := zbl HB.out a2
      replace a3 := zbl HB.out a3
      replace a4 := zbl HB.out a4
      replace a5 := zbl HB.out a5
      replace a6 := zbl HB.out a6
      replace a7 := zbl HB.out a7
      replace a8 := zbl HB.out a8
      replace a9 := zbl HB.out a9
      replace a10 := zbl HB.out a10
      replace a11 := zbl HB.out a11
      generalize (l.take k).map gvM = G at *
      go_wp2_with (first | ((with_reducible refine zax (b := .append) (xs := #[.tmp 20, .tmp 22]) rfl ?_); at_builtin; generalize hwx : World.alloc _ _ = wx; have hbk : wx.heap[wr.heap.size]? = some (.cells #[.int .i64 s0, .string s1, .string s2, .string s3, .slice A7 s4.length c7, .int .i64 s5, .int .i64 s6, .slice A10 s7.length c10] 55 (0, 0)) := (by rw [← hwx]; exact blk_new wr _); have hbx : Below wr.heap.size wr wx := (by rw [← hwx]; exact zae (Below.refl _ _) _); clear hwx; have HBk := Lib.hid hbk; have HBx := Lib.hid hbx; clear hbk hbx; refine Kd.R_append_rows k38 (w0 := wr) wr.heap.size rfl (.tmp 20) (.tmp 22) 31 38 _ 32 rfl Tryd.underlying31 info38 rfl (by decide) (by omega) (.slice none 0 0) [] s4 A7 s4.length c7 (fun _ => True) (fun _ => False) rfl rfl (Kd.R_nil _ _ _ _ _) (Kd.C_below HR7.out HBx.out) (fun _ _ h => h) (fun _ h => h.elim) (fun _ _ => trivial) HBx.out HBx.out.size ?aL ?_; (case aL => show (0 + s4.length) * 32 ≤ _; omega); intro v1 w1 ho hb hg hat; rw [List.nil_append] at ho; have hbk := zbk HBk.out hg (by simp [Value.ownBlock]); clear HBk HBx; have HBk := Lib.hid hbk; have HBx := Lib.hid hb; have HM := Lib.hid ho; obtain ⟨p0, p1, p2, p3, p4, p5, p6, p7⟩ := box8 hbk; clear hbk hb hg hat ho) | ((with_reducible refine zax (b := .append) (xs := #[.tmp 24, .tmp 26]) rfl ?_); at_builtin; clear p0 p1 p2 p3 p4 p5 p6 p7; refine Kd.R_append k38 (w0 := wr) wr.heap.size rfl (.tmp 24) (.tmp 26) 31 38 _ 32 rfl Tryd.underlying31 info38 rfl (by decide) (by omega) v1 s4 pMark [.string ⟨#[109, 97, 114, 107]⟩, .string ⟨#[]⟩] (fun _ => True) (fun _ => False) rfl rfl (k38_mkM _ _ _ pMark) (fun _ hk => hk.elim) (fun _ _ => trivial) HM.out HBx.out HBx.out.size ?aL ?_; (case aL => omega); intro v2 w2 ho hb hg hat; have hbk := zbk HBk.out hg (Kd.R_ne HM.out HBk.out (by decide)); clear HBk HBx; have HBk := Lib.hid hbk; have HBx := Lib.hid hb; clear HM; have HM := Lib.hid ho; obtain ⟨p0, p1, p2, p3, p4, p5, p6, p7⟩ := box8 hbk; clear hbk hb hg hat ho) | ((with_reducible refine zax (b := .append) (xs := #[.tmp 28, .tmp 30]) rfl ?_); at_builtin; clear p0 p1 p2 p3 p4 p5 p6 p7; refine Kd.R_append_rows (Kd.int .i64) (w0 := wr) wr.heap.size rfl (.tmp 28) (.tmp 30) 32 3 _ 8 rfl Tryd.underlying32 info3 rfl (by decide) (by omega) (.slice none 0 0) [] s7 A10 s7.length c10 (fun _ => True) (fun _ => False) rfl rfl (Kd.R_nil _ _ _ _ _) (Kd.C_below HR10.out HBx.out) (fun _ _ h => h) (fun _ h => h.elim) (fun _ _ => trivial) HBx.out HBx.out.size ?aL ?_; (case aL => show (0 + s7.length) * 8 ≤ _; omega); intro v3 w3 ho hb hg hat; rw [List.nil_append] at ho; have hm := Kd.R_grown HM.out hg (fun _ _ => by simp [Value.ownBlock]); clear HM; have hbk := zbk HBk.out hg (by simp [Value.ownBlock]); clear HBk HBx; have HBk := Lib.hid hbk; have HBx := Lib.hid hb; have HM := Lib.hid hm; have HK := Lib.hid ho; clear hm; obtain ⟨p0, p1, p2, p3, p4, p5, p6, p7⟩ := box8 hbk; clear hbk hb hg hat ho) | ((with_reducible refine zax (b := .append) (xs := #[.tmp 32, .tmp 33]) rfl ?_); at_builtin; clear p0 p1 p2 p3 p4 p5 p6 p7; refine Kd.R_append (Kd.int .i64) (w0 := wr) wr.heap.size rfl (.tmp 32) (.tmp 33) 32 3 _ 8 rfl Tryd.underlying32 info3 rfl (by decide) (by omega) v3 s7 (-77) [.int .i64 (-77)] (fun _ => True) (fun _ => False) rfl rfl rfl (fun _ hk => hk.elim) (fun _ _ => trivial) HK.out HBx.out HBx.out.size ?aL ?_; (case aL => omega); intro v4 w4 ho hb hg hat; have hm := Kd.R_over' HM.out (Kd.R_typed HK.out) (by decide) hg; clear HM; have hbk := zbk HBk.out hg (Kd.R_ne HK.out HBk.out (by decide)); clear HBk HBx; have HBk := Lib.hid hbk; have HBx := Lib.hid hb; clear HK; have HM := Lib.hid hm; have HK := Lib.hid ho; clear hm; obtain ⟨p0, p1, p2, p3, p4, p5, p6, p7⟩ := box8 hbk; clear hbk hb hg hat ho))
      obtain ⟨Ao, co, hv⟩ := Kd.R_slice HM.out
      obtain ⟨Ap, cp, hu⟩ := Kd.R_slice HK.out
      rw [show (s4 ++ [pMark]).length = s4.length + 1 by simp] at hv
      rw [show (s7 ++ [(-77 : Int)]).length = s7.length + 1 by simp] at hu
      subst hv hu
      have hlo := (Kd.R_reads' HM.out).2.1
      have hlp := (Kd.R_reads' HK.out).2.1
      obtain ⟨i1, hi1, _⟩ := info_parts info38
      obtain ⟨i2, hi2, _⟩ := info_parts info3
      have hc1 := cut_to (P := Tryd.prog) 31 38 .i64 Tryd.underlying31 hi1 Ao (s4.length + 1) co (s4.length : Int) (by omega) (by omega) hlo
      have hc2 := cut_to (P := Tryd.prog) 32 3 .i64 Tryd.underlying32 hi2 Ap (s7.length + 1) cp (s7.length : Int) (by omega) (by omega) hlp
      rw [Int.toNat_natCast] at hc1 hc2
      clear hi1 hi2 hlo hlp
      clear p0 p1 p2 p3 p4 p5 p6 p7
      refine start_ (n := 25) (S := fun w' => w'.cell? ⟨wr.heap.size, 0, none⟩ = some (.int .i64 s0) ∧ w'.cell? ⟨wr.heap.size, 1, none⟩ = some (.string s1) ∧ w'.cell? ⟨wr.heap.size, 2, none⟩ = some (.string s2) ∧ w'.cell? ⟨wr.heap.size, 3, none⟩ = some (.string s3) ∧ w'.cell? ⟨wr.heap.size, 4, none⟩ = some (.slice A7 s4.length c7) ∧ w'.cell? ⟨wr.heap.size, 5, none⟩ = some (.int .i64 s5) ∧ w'.cell? ⟨wr.heap.size, 6, none⟩ = some (.int .i64 s6) ∧ w'.cell? ⟨wr.heap.size, 7, none⟩ = some (.slice A10 s7.length c10)) (ds := []) (tm 25 0) (by kernel_rfl) rfl rfl (box8 (zaj HBk.out)) (fun hHeld => ?_); refine zbp gvtab12 gvbits12 (fun HT_ HW_ => ?_)
      have n0 := Lib.hid (Kd.R_drew HM.out)
      have n1 := Lib.hid (Kd.R_drew HK.out)
      have n2 := Lib.hid (zaj HBk.out)
      have n3 := Lib.hid (zad HBx.out)
      clear HM HK HBk HBx
      generalize w4.drew = w5 at n0 n1 n2 n3 hHeld ⊢
      refine pure_ (i := 0) (N := some 35) (v := ?_) (a' := ?_) (tm 25 1) rfl rfl (zak HT_.out (by kernel_rfl)) (fun _ _ _ h => h) (Or.inl ⟨by rfl, ?_⟩) ?_ ?_
      rotate_left
      · (intro w'; go_simp; with_reducible rfl)
      rotate_left
      · (simp only [aw]; rfl)
      refine pure_ (i := 2) (N := some 37) (v := ?_) (a' := ?_) (tm 25 5) rfl rfl (zak HT_.out (by kernel_rfl)) (fun _ _ _ h => h) (Or.inl ⟨by rfl, ?_⟩) ?_ ?_
      rotate_left
      · (intro w'; go_simp; with_reducible rfl)
      rotate_left
      · (simp only [aw]; rfl)
      refine pure_ (i := 4) (N := some 39) (v := ?_) (a' := ?_) (tm 25 21) rfl rfl (zak HT_.out (by kernel_rfl)) (fun _ _ _ h => h) (Or.inl ⟨by rfl, ?_⟩) ?_ ?_
      rotate_left
      · (intro w'; go_simp; with_reducible rfl)
      rotate_left
      · (simp only [aw]; rfl)
      refine pure_ (i := 6) (N := some 41) (v := ?_) (a' := ?_) (tm 25 85) rfl rfl (zak HT_.out (by kernel_rfl)) (fun _ _ _ h => h) (Or.inl ⟨by rfl, ?_⟩) ?_ ?_
      rotate_left
      · (intro w'; go_simp; with_reducible rfl)
      rotate_left
      · (simp only [aw]; rfl)
      refine pure_ (i := 8) (N := some 43) (v := ?_) (a' := ?_) (tm 25 341) rfl rfl (zak HT_.out (by kernel_rfl)) (fun _ _ _ h => h) (Or.inl ⟨by rfl, ?_⟩) ?_ ?_
      rotate_left
      · (intro w'; go_simp; with_reducible rfl)
      rotate_left
      · (simp only [aw]; rfl)
      refine pure_ (i := 9) (N := some 44) (v := ?_) (a' := ?_) (tm 25 853) rfl rfl (zak HT_.out (by kernel_rfl)) (fun _ _ _ h => h) (Or.inl ⟨by rfl, ?_⟩) ?_ ?_
      rotate_left
      · (intro w'; go_simp; with_reducible rfl)
      rotate_left
      · (simp only [aw]; rfl)
      refine pure_ (i := 13) (N := some 48) (v := ?_) (a' := ?_) (tm 25 9045) rfl rfl (zak HT_.out (by kernel_rfl)) (fun _ _ _ h => h) (Or.inl ⟨by rfl, ?_⟩) ?_ ?_
      rotate_left
      · (intro w'; go_simp; with_reducible rfl)
      rotate_left
      · (simp only [aw]; rfl)
      refine pure_ (i := 15) (N := some 50) (v := ?_) (a' := ?_) (tm 25 41813) rfl rfl (zak HT_.out (by kernel_rfl)) (fun _ _ _ h => h) (Or.inl ⟨by rfl, ?_⟩) ?_ ?_
      rotate_left
      · (intro w'; go_simp; with_reducible rfl)
      rotate_left
      · (simp only [aw]; rfl)
      refine pure_ (i := 17) (N := some 52) (v := ?_) (a' := ?_) (tm 25 172885) rfl rfl (zak HT_.out (by kernel_rfl)) (fun _ _ _ h => h) (Or.inl ⟨by rfl, ?_⟩) ?_ ?_
      rotate_left
      · (intro w'; go_simp; with_reducible rfl)
      rotate_left
      · (simp only [aw]; rfl)
      refine pure_ (i := 18) (N := some 53) (v := ?_) (a' := ?_) (tm 25 435029) rfl rfl (zak HT_.out (by kernel_rfl)) (fun _ _ _ h => h) (Or.inl ⟨by rfl, ?_⟩) ?_ ?_
      rotate_left
      · (intro w'; go_simp; with_reducible rfl)
      rotate_left
      · (simp only [aw]; rfl)
      refine take_ (i := 1) (N := some 36) (v := ?_) (a' := ?_) (tm 25 435031) rfl rfl (zat HT_.out HW_.out (by kernel_rfl)) (fun _ _ _ h => h) (Or.inl ⟨by rfl, ?_⟩) hHeld ?_ ?_
      rotate_left
      · (rintro w' ⟨h0, h1, h2, h3, h4, h5, h6, h7⟩; go_simp; with_reducible rfl)
      rotate_left
      · (simp only [aw]; rfl)
      refine take_ (i := 3) (N := some 38) (v := ?_) (a' := ?_) (tm 25 435039) rfl rfl (zat HT_.out HW_.out (by kernel_rfl)) (fun _ _ _ h => h) (Or.inl ⟨by rfl, ?_⟩) hHeld ?_ ?_
      rotate_left
      · (rintro w' ⟨h0, h1, h2, h3, h4, h5, h6, h7⟩; go_simp; with_reducible rfl)
      rotate_left
      · (simp only [aw]; rfl)
      refine take_ (i := 5) (N := some 40) (v := ?_) (a' := ?_) (tm 25 435071) rfl rfl (zat HT_.out HW_.out (by kernel_rfl)) (fun _ _ _ h => h) (Or.inl ⟨by rfl, ?_⟩) hHeld ?_ ?_
      rotate_left
      · (rintro w' ⟨h0, h1, h2, h3, h4, h5, h6, h7⟩; go_simp; with_reducible rfl)
      rotate_left
      · (simp only [aw]; rfl)
      refine take_ (i := 7) (N := some 42) (v := ?_) (a' := ?_) (tm 25 435199) rfl rfl (zat HT_.out HW_.out (by kernel_rfl)) (fun _ _ _ h => h) (Or.inl ⟨by rfl, ?_⟩) hHeld ?_ ?_
      rotate_left
      · (rintro w' ⟨h0, h1, h2, h3, h4, h5, h6, h7⟩; go_simp; with_reducible rfl)
      rotate_left
      · (simp only [aw]; rfl)
      refine take_ (i := 10) (N := some 45) (v := ?_) (a' := ?_) (tm 25 436223) rfl rfl (zat HT_.out HW_.out (by kernel_rfl)) (fun _ _ _ h => h) (Or.inl ⟨by rfl, ?_⟩) hHeld ?_ ?_
      rotate_left
      · (rintro w' ⟨h0, h1, h2, h3, h4, h5, h6, h7⟩; go_simp; with_reducible rfl)
      rotate_left
      · (simp only [aw]; rfl)
      refine pure_ (i := 11) (N := some 46) (v := ?_) (a' := ?_) (tm 25 438271) rfl rfl (zak HT_.out (by kernel_rfl)) (fun _ _ _ h => h) (Or.inl ⟨by rfl, ?_⟩) ?_ ?_
      rotate_left
      · (intro w'; go_simp; with_reducible rfl)
      rotate_left
      · (simp only [aw]; rfl)
      refine pure_ (i := 12) (N := some 47) (v := ?_) (a' := ?_) (tm 25 442367) rfl rfl (zak HT_.out (by kernel_rfl)) (fun _ _ _ h => h) (Or.inl ⟨by rfl, ?_⟩) ?_ ?_
      rotate_left
      · (intro w'; go_simp; with_reducible rfl)
      rotate_left
      · (simp only [aw]; rfl)
      refine take_ (i := 14) (N := some 49) (v := ?_) (a' := ?_) (tm 25 458751) rfl rfl (zat HT_.out HW_.out (by kernel_rfl)) (fun _ _ _ h => h) (Or.inl ⟨by rfl, ?_⟩) hHeld ?_ ?_
      rotate_left
      · (rintro w' ⟨h0, h1, h2, h3, h4, h5, h6, h7⟩; go_simp; with_reducible rfl)
      rotate_left
      · (simp only [aw]; rfl)
      refine take_ (i := 16) (N := some 51) (v := ?_) (a' := ?_) (tm 25 524287) rfl rfl (zat HT_.out HW_.out (by kernel_rfl)) (fun _ _ _ h => h) (Or.inl ⟨by rfl, ?_⟩) hHeld ?_ ?_
      rotate_left
      · (rintro w' ⟨h0, h1, h2, h3, h4, h5, h6, h7⟩; go_simp; with_reducible rfl)
      rotate_left
      · (simp only [aw]; rfl)
      refine take_ (i := 19) (N := some 54) (v := ?_) (a' := ?_) (tm 25 1048575) rfl rfl (zat HT_.out HW_.out (by kernel_rfl)) (fun _ _ _ h => h) (Or.inl ⟨by rfl, ?_⟩) hHeld ?_ ?_
      rotate_left
      · (rintro w' ⟨h0, h1, h2, h3, h4, h5, h6, h7⟩; go_simp; with_reducible rfl)
      rotate_left
      · (simp only [aw]; rfl)
      refine pure_ (i := 20) (N := some 55) (v := ?_) (a' := ?_) (tm 25 2097151) rfl rfl (zak HT_.out (by kernel_rfl)) (fun _ _ _ h => h) (Or.inl ⟨by rfl, ?_⟩) ?_ ?_
      rotate_left
      · (intro w'; go_simp; with_reducible rfl)
      rotate_left
      · (simp only [aw]; rfl)
      refine pure_ (i := 21) (N := some 56) (v := ?_) (a' := ?_) (tm 25 4194303) rfl rfl (zak HT_.out (by kernel_rfl)) (fun _ _ _ h => h) (Or.inl ⟨by rfl, ?_⟩) ?_ ?_
      rotate_left
      · (intro w'; go_simp; with_reducible rfl)
      rotate_left
      · (simp only [aw]; rfl)
      refine pure_ (i := 22) (N := some 57) (v := ?_) (a' := ?_) (tm 25 8388607) rfl rfl (zak HT_.out (by kernel_rfl)) (fun _ _ _ h => h) (Or.inl ⟨by rfl, ?_⟩) ?_ ?_
      rotate_left
      · (intro w'; go_simp; with_reducible rfl)
      rotate_left
      · (simp only [aw]; rfl)
      refine one_ (i := 23) (N := some 8) (tm 25 16777215) rfl rfl (one_of HT_.out (by kernel_rfl)) (by decide) (fun K hK => ?_)
      refine box_step ?hg (N := 8) ?hd (cs := #[.int .i64 0, .string (⟨#[]⟩ : ByteArray), .string (⟨#[]⟩ : ByteArray), .string (⟨#[]⟩ : ByteArray), .slice none 0 0, .int .i64 0, .int .i64 0, .slice none 0 0]) (t := 34) ?hr ?_; (case hd => rfl); (case hg => rfl); (case hr => first | (go_simp; done) | (go_simp; rfl))
      intro gb hgb w6 hbox hb
      have m0 := Lib.hid (Kd.R_below n0.out hb)
      have m1 := Lib.hid (Kd.R_below n1.out hb)
      have m2 := Lib.hid (zaz n2.out hb)
      have m3 := Lib.hid (n3.out.trans (hb.mono n3.out.size))
      have m4 := Lib.hid hbox
      have m5 := Lib.hid (show wr.heap.size ≠ gb by have := blk_lt n2.out; omega)
      have m6 := Lib.hid (show wr.heap.size ≤ gb by have := n3.out.size; omega)
      clear n0 n1 n2 n3 hb hbox hgb
      refine hK.out _ _ (box8 m2.out) (fun hHeld => ?_)
      clear hK K
      (refine norm_ (a' := ?_) ?_ ?_; rotate_left; focus (show Act.put _ (some 8) _ = _; simp only [aw]; rfl))
      refine one_ (i := 24) (N := none) (tm 25 33554431) rfl rfl (one_of HT_.out (by kernel_rfl)) (by decide) (fun K hK => ?_)
      have z0 : w6.cell? ⟨gb, 0, none⟩ = some (.int .i64 0) := zaa m4.out 0
      have z1 : w6.cell? ⟨gb, 1, none⟩ = some (.string (⟨#[]⟩ : ByteArray)) := zaa m4.out 1
      have z2 : w6.cell? ⟨gb, 2, none⟩ = some (.string (⟨#[]⟩ : ByteArray)) := zaa m4.out 2
      have z3 : w6.cell? ⟨gb, 3, none⟩ = some (.string (⟨#[]⟩ : ByteArray)) := zaa m4.out 3
      have z4 : w6.cell? ⟨gb, 4, none⟩ = some (.slice none 0 0) := zaa m4.out 4
      have z5 : w6.cell? ⟨gb, 5, none⟩ = some (.int .i64 0) := zaa m4.out 5
      have z6 : w6.cell? ⟨gb, 6, none⟩ = some (.int .i64 0) := zaa m4.out 6
      have z7 : w6.cell? ⟨gb, 7, none⟩ = some (.slice none 0 0) := zaa m4.out 7
      have zf : ∀ o, w6.frozen? ⟨gb, o, none⟩ = false := zab m4.out
      refine skip_ (w1 := ?_) (by rfl) rfl ?_ ?_
      rotate_left
      · go_simp
        rfl
      refine hK.out _ _ (box8 (t := 55) ?_) (fun hHeld => ?_)
      · exact (box8_far w6 _ _ _ _ _ _ _ _ m5.out).trans m2.out
      clear hK K
      refine done_ (done_of HT_.out (by kernel_rfl)) ?_
      try go_wp2
      clear z0 z1 z2 z3 z4 z5 z6 z7 zf hHeld HT_ HW_ hc1 hc2
      generalize hw7 : World.setCell _ ⟨gb, 7, none⟩ _ = w7
      have y0 : Hid (k38.R 38 w7 wr.heap.size (fun _ => True) (.slice Ao (s4.length + 1) co) (s4 ++ [pMark])) := Lib.hid (by rw [← hw7]; exact Kd.R_mono (Kd.R_step (Kd.R_types m0.out m4.out (by decide)) (fun k hk _ => box8_far w6 _ _ _ _ _ _ _ _ hk.2)) (fun _ hk => hk.1))
      have y1 : Hid ((Kd.int .i64).R 3 w7 wr.heap.size (fun _ => True) (.slice Ap (s7.length + 1) cp) (s7 ++ [-77])) := Lib.hid (by rw [← hw7]; exact Kd.R_mono (Kd.R_step (Kd.R_types m1.out m4.out (by decide)) (fun k hk _ => box8_far w6 _ _ _ _ _ _ _ _ hk.2)) (fun _ hk => hk.1))
      have y2 : Hid (w7.heap[gb]? = some (.cells #[.int .i64 s0, .string s1, .string s2, .string s3, .slice Ao s4.length co, .int .i64 s5, .int .i64 s6, .slice Ap s7.length cp] 34 (0, 0))) := Lib.hid (by rw [← hw7]; exact box8_puts _ _ _ _ _ _ _ _ m4.out)
      have y3 : Hid (Below wr.heap.size wr w7) := Lib.hid (by rw [← hw7]; exact box8_below _ _ _ _ _ _ _ _ m3.out m6.out)
      have HGB := m6
      clear hw7 m0 m1 m2 m3 m4 m5 m6
      have hs := Kd.S_below HS.out y3.out
      have HSn := Lib.hid (Kd.S_mono (Kd.S_bound HS.out) (fun k hk => (⟨hk.1, fun h => absurd hk.2.2.1 (Nat.not_lt.2 h)⟩ : w.heap.size ≤ k ∧ ¬ wr.heap.size ≤ k)))
      clear hs
      have y4 := Lib.hid (show Below w.heap.size w w7 from HB.out.trans (y3.out.mono HB.out.size))
      have hi2 : (k : Int) < (l.length : Int) := by omega
      refine start_ (n := 26) (S := fun w' => (w'.cell? ⟨gb, 0, none⟩ = some (.int .i64 s0) ∧ w'.cell? ⟨gb, 1, none⟩ = some (.string s1) ∧ w'.cell? ⟨gb, 2, none⟩ = some (.string s2) ∧ w'.cell? ⟨gb, 3, none⟩ = some (.string s3) ∧ w'.cell? ⟨gb, 4, none⟩ = some (.slice Ao s4.length co) ∧ w'.cell? ⟨gb, 5, none⟩ = some (.int .i64 s5) ∧ w'.cell? ⟨gb, 6, none⟩ = some (.int .i64 s6) ∧ w'.cell? ⟨gb, 7, none⟩ = some (.slice Ap s7.length cp)) ∧ w'.cell? (ad.add (k * 12)) = some (.int .i64 x0) ∧ w'.cell? ⟨(ad.add (k * 12)).block, (ad.add (k * 12)).off + 1, none⟩ = some (.int .i64 x1) ∧ w'.cell? ⟨(ad.add (k * 12)).block, (ad.add (k * 12)).off + 2, none⟩ = some (.int .i64 x2) ∧ w'.cell? ⟨(ad.add (k * 12)).block, (ad.add (k * 12)).off + 11, none⟩ = some (.string x4)) (ds := []) (tm 26 0) (by kernel_rfl) rfl rfl ⟨box8 (zaj y2.out), zbl (zad y4.out) HA.out.1, zbl (zad y4.out) HA.out.2.1, zbl (zad y4.out) HA.out.2.2.1, zbl (zad y4.out) HA.out.2.2.2⟩ (fun hHeld => ?_); refine zbp gvtab13 gvbits13 (fun HT_ HW_ => ?_)
      have n0 := Lib.hid (Kd.R_drew y0.out)
      have n1 := Lib.hid (Kd.R_drew y1.out)
      have n2 := Lib.hid (zaj y2.out)
      have n3 := Lib.hid (zad y3.out)
      have n4 := Lib.hid (zad y4.out)
      clear y0 y1 y2 y3 y4
      generalize w7.drew = w8 at n0 n1 n2 n3 n4 hHeld ⊢
      refine pure_ (i := 0) (N := some 58) (v := ?_) (a' := ?_) (tm 26 1) rfl rfl (zak HT_.out (by kernel_rfl)) (fun _ _ _ h => h) (Or.inl ⟨by rfl, ?_⟩) ?_ ?_
      rotate_left
      · (intro w'; go_simp; with_reducible rfl)
      rotate_left
      · (simp only [aw]; rfl)
      refine pure_ (i := 1) (N := some 59) (v := ?_) (a' := ?_) (tm 26 3) rfl rfl (zak HT_.out (by kernel_rfl)) (fun _ _ _ h => h) (Or.inl ⟨by rfl, ?_⟩) ?_ ?_
      rotate_left
      · (intro w'; go_simp; with_reducible rfl)
      rotate_left
      · (simp only [aw]; rfl)
      refine pure_ (i := 2) (N := some 60) (v := ?_) (a' := ?_) (tm 26 7) rfl rfl (zak HT_.out (by kernel_rfl)) (fun _ _ _ h => h) (Or.inl ⟨by rfl, ?_⟩) ?_ ?_
      rotate_left
      · (intro w'; go_simp; with_reducible rfl)
      rotate_left
      · (simp only [aw]; rfl)
      refine pure_ (i := 3) (N := some 61) (v := ?_) (a' := ?_) (tm 26 15) rfl rfl (zak HT_.out (by kernel_rfl)) (fun _ _ _ h => h) (Or.inl ⟨by rfl, ?_⟩) ?_ ?_
      rotate_left
      · (intro w'; go_simp; with_reducible rfl)
      rotate_left
      · (simp only [aw]; rfl)
      refine pure_ (i := 4) (N := some 62) (v := ?_) (a' := ?_) (tm 26 31) rfl rfl (zak HT_.out (by kernel_rfl)) (fun _ _ _ h => h) (Or.inl ⟨by rfl, ?_⟩) ?_ ?_
      rotate_left
      · (intro w'; go_simp; with_reducible rfl)
      rotate_left
      · (simp only [aw]; rfl)
      refine pure_ (i := 6) (N := some 64) (v := ?_) (a' := ?_) (tm 26 95) rfl rfl (zak HT_.out (by kernel_rfl)) (fun _ _ _ h => h) (Or.inl ⟨by rfl, ?_⟩) ?_ ?_
      rotate_left
      · (intro w'; go_simp; with_reducible rfl)
      rotate_left
      · (simp only [aw]; rfl)
      refine pure_ (i := 7) (N := some 65) (v := ?_) (a' := ?_) (tm 26 223) rfl rfl (zak HT_.out (by kernel_rfl)) (fun _ _ _ h => h) (Or.inl ⟨by rfl, ?_⟩) ?_ ?_
      rotate_left
      · (intro w'; go_simp; with_reducible rfl)
      rotate_left
      · (simp only [aw]; rfl)
      refine pure_ (i := 8) (N := some 66) (v := ?_) (a' := ?_) (tm 26 479) rfl rfl (zak HT_.out (by kernel_rfl)) (fun _ _ _ h => h) (Or.inl ⟨by rfl, ?_⟩) ?_ ?_
      rotate_left
      · (intro w'; go_simp; with_reducible rfl)
      rotate_left
      · (simp only [aw]; rfl)
      refine pure_ (i := 9) (N := some 67) (v := ?_) (a' := ?_) (tm 26 991) rfl rfl (zak HT_.out (by kernel_rfl)) (fun _ _ _ h => h) (Or.inl ⟨by rfl, ?_⟩) ?_ ?_
      rotate_left
      · (intro w'; go_simp; with_reducible rfl)
      rotate_left
      · (simp only [aw]; rfl)
      refine pure_ (i := 11) (N := some 69) (v := ?_) (a' := ?_) (tm 26 3039) rfl rfl (zak HT_.out (by kernel_rfl)) (fun _ _ _ h => h) (Or.inl ⟨by rfl, ?_⟩) ?_ ?_
      rotate_left
      · (intro w'; go_simp; with_reducible rfl)
      rotate_left
      · (simp only [aw]; rfl)
      refine pure_ (i := 12) (N := some 70) (v := ?_) (a' := ?_) (tm 26 7135) rfl rfl (zak HT_.out (by kernel_rfl)) (fun _ _ _ h => h) (Or.inl ⟨by rfl, ?_⟩) ?_ ?_
      rotate_left
      · (intro w'; go_simp; with_reducible rfl)
      rotate_left
      · (simp only [aw]; rfl)
      refine pure_ (i := 13) (N := some 71) (v := ?_) (a' := ?_) (tm 26 15327) rfl rfl (zak HT_.out (by kernel_rfl)) (fun _ _ _ h => h) (Or.inl ⟨by rfl, ?_⟩) ?_ ?_
      rotate_left
      · (intro w'; go_simp; with_reducible rfl)
      rotate_left
      · (simp only [aw]; rfl)
      refine pure_ (i := 14) (N := some 72) (v := ?_) (a' := ?_) (tm 26 31711) rfl rfl (zak HT_.out (by kernel_rfl)) (fun _ _ _ h => h) (Or.inl ⟨by rfl, ?_⟩) ?_ ?_
      rotate_left
      · (intro w'; go_simp; with_reducible rfl)
      rotate_left
      · (simp only [aw]; rfl)
      refine pure_ (i := 17) (N := some 75) (v := ?_) (a' := ?_) (tm 26 162783) rfl rfl (zak HT_.out (by kernel_rfl)) (fun _ _ _ h => h) (Or.inl ⟨by rfl, ?_⟩) ?_ ?_
      rotate_left
      · (intro w'; go_simp; with_reducible rfl)
      rotate_left
      · (simp only [aw]; rfl)
      refine pure_ (i := 18) (N := some 76) (v := ?_) (a' := ?_) (tm 26 424927) rfl rfl (zak HT_.out (by kernel_rfl)) (fun _ _ _ h => h) (Or.inl ⟨by rfl, ?_⟩) ?_ ?_
      rotate_left
      · (intro w'; go_simp; with_reducible rfl)
      rotate_left
      · (simp only [aw]; rfl)
      refine pure_ (i := 19) (N := some 77) (v := ?_) (a' := ?_) (tm 26 949215) rfl rfl (zak HT_.out (by kernel_rfl)) (fun _ _ _ h => h) (Or.inl ⟨by rfl, ?_⟩) ?_ ?_
      rotate_left
      · (intro w'; go_simp; with_reducible rfl)
      rotate_left
      · (simp only [aw]; rfl)
      refine pure_ (i := 20) (N := some 78) (v := ?_) (a' := ?_) (tm 26 1997791) rfl rfl (zak HT_.out (by kernel_rfl)) (fun _ _ _ h => h) (Or.inl ⟨by rfl, ?_⟩) ?_ ?_
      rotate_left
      · (intro w'; go_simp; with_reducible rfl)
      rotate_left
      · (simp only [aw]; rfl)
      refine take_ (i := 5) (N := some 63) (v := ?_) (a' := ?_) (tm 26 1997823) rfl rfl (zat HT_.out HW_.out (by kernel_rfl)) (fun _ _ _ h => h) (Or.inl ⟨by rfl, ?_⟩) hHeld ?_ ?_
      rotate_left
      · (rintro w' ⟨⟨h0, h1, h2, h3, h4, h5, h6, h7⟩, e0, e1, e2, e3⟩; go_simp; with_reducible rfl)
      rotate_left
      · (simp only [aw]; rfl)
      refine take_ (i := 10) (N := some 68) (v := ?_) (a' := ?_) (tm 26 1998847) rfl rfl (zat HT_.out HW_.out (by kernel_rfl)) (fun _ _ _ h => h) (Or.inl ⟨by rfl, ?_⟩) hHeld ?_ ?_
      rotate_left
      · (rintro w' ⟨⟨h0, h1, h2, h3, h4, h5, h6, h7⟩, e0, e1, e2, e3⟩; go_simp; with_reducible rfl)
      rotate_left
      · (simp only [aw]; rfl)
      refine take_ (i := 15) (N := some 73) (v := ?_) (a' := ?_) (tm 26 2031615) rfl rfl (zat HT_.out HW_.out (by kernel_rfl)) (fun _ _ _ h => h) (Or.inl ⟨by rfl, ?_⟩) hHeld ?_ ?_
      rotate_left
      · (rintro w' ⟨⟨h0, h1, h2, h3, h4, h5, h6, h7⟩, e0, e1, e2, e3⟩; go_simp; with_reducible rfl)
      rotate_left
      · (simp only [aw]; rfl)
      refine take_ (i := 16) (N := some 74) (v := ?_) (a' := ?_) (tm 26 2097151) rfl rfl (zat HT_.out HW_.out (by kernel_rfl)) (fun _ _ _ h => h) (Or.inl ⟨by rfl, ?_⟩) hHeld ?_ ?_
      rotate_left
      · (rintro w' ⟨⟨h0, h1, h2, h3, h4, h5, h6, h7⟩, e0, e1, e2, e3⟩; go_simp; with_reducible rfl)
      rotate_left
      · (simp only [aw]; rfl)
      refine take_ (i := 21) (N := some 79) (v := ?_) (a' := ?_) (tm 26 4194303) rfl rfl (zat HT_.out HW_.out (by kernel_rfl)) (fun _ _ _ h => h) (Or.inl ⟨by rfl, ?_⟩) hHeld ?_ ?_
      rotate_left
      · (rintro w' ⟨⟨h0, h1, h2, h3, h4, h5, h6, h7⟩, e0, e1, e2, e3⟩; go_simp; with_reducible rfl)
      rotate_left
      · (simp only [aw]; rfl)
      refine pure_ (i := 22) (N := some 80) (v := ?_) (a' := ?_) (tm 26 8388607) rfl rfl (zak HT_.out (by kernel_rfl)) (fun _ _ _ h => h) (Or.inl ⟨by rfl, ?_⟩) ?_ ?_
      rotate_left
      · (intro w'; go_simp; with_reducible rfl)
      rotate_left
      · (simp only [aw]; rfl)
      refine one_ (i := 23) (N := some 81) (tm 26 16777215) rfl rfl (one_of HT_.out (by kernel_rfl)) (by decide) (fun K hK => ?_)
      refine value_ (w1 := ?_) (v := ?_) (by rfl) rfl ?_ ?_
      rotate_left 2
      · (go_simp; constructor; rfl; rfl)
      refine hK.out _ _ ⟨box8 (zag n2.out _), zbl (zae n4.out _) HA.out.1, zbl (zae n4.out _) HA.out.2.1, zbl (zae n4.out _) HA.out.2.2.1, zbl (zae n4.out _) HA.out.2.2.2⟩ (fun hHeld => ?_)
      clear hK K
      (refine norm_ (a' := ?_) ?_ ?_; rotate_left; focus (show Act.put _ (some 81) _ = _; simp only [aw]; rfl))
      refine one_ (i := 24) (N := some 82) (tm 26 33554431) rfl rfl (one_of HT_.out (by kernel_rfl)) (by decide) (fun K hK => ?_)
      refine Kd.S_append_step kmC (w0 := w) w.heap.size (by rfl) (.tmp 58) (.tmp 81) 23 36 _ 160 rfl Tryd.underlying23 info36 rfl (by decide) (by omega) u3 G (gvM ⟨x0, x1, x2, ⟨s0, s1, s2, s3, s4, s5, s6, s7⟩, x4⟩) [.int .i64 x0, .int .i64 x1, .int .i64 x2, .int .i64 s0, .string s1, .string s2, .string s3, .slice Ao s4.length co, .int .i64 s5, .int .i64 s6, .slice Ap s7.length cp, .string x4] (fun k_ => w.heap.size ≤ k_) (fun k_ => wr.heap.size ≤ k_) rfl rfl ?aP ?aK ?aF ?aO ?aB ?aS ?aL ?_
      (case aP => exact gvM_mk _ _ _ (Kd.R_lower (Kd.R_mono (Kd.R_bound n0.out) (fun _ hk => hk.2.1)) HB.out.size) (Kd.R_lower (Kd.R_mono (Kd.R_bound n1.out) (fun _ hk => hk.2.1)) HB.out.size))
      (case aK => exact fun k_ hk => ⟨Nat.le_trans HB.out.size hk, fun he => by have := Kd.S_lt HS.out k_ he.symm; omega⟩)
      (case aF => exact fun k_ hk => Nat.le_trans n4.out.size hk)
      (case aO => exact Kd.S_below HSn.out n3.out)
      (case aB => exact n4.out)
      (case aS => exact n4.out.size)
      (case aL => have := HL.out; omega)
      intro v9 w9 ho hb hg hat
      have m2 := Lib.hid (zbk n2.out hg (fun he => by have := Kd.S_lt HS.out gb he.symm; have := HGB.out; omega))
      have HO := Lib.hid ho
      have HB9 := Lib.hid hb
      clear ho hb hg hat
      refine hK.out _ _ ⟨box8 (m2.out), zbl (HB9.out) HA.out.1, zbl (HB9.out) HA.out.2.1, zbl (HB9.out) HA.out.2.2.1, zbl (HB9.out) HA.out.2.2.2⟩ (fun hHeld => ?_)
      clear hK K
      (refine norm_ (a' := ?_) ?_ ?_; rotate_left; focus (show Act.put _ (some 82) _ = _; simp only [aw]; rfl))
      refine pure_ (i := 25) (N := some 3) (v := ?_) (a' := ?_) (tm 26 67108863) rfl rfl (zak HT_.out (by kernel_rfl)) (fun _ _ _ h => h) (Or.inl ⟨by rfl, ?_⟩) ?_ ?_
      rotate_left
      · (intro w'; go_simp; with_reducible rfl)
      rotate_left
      · (simp only [aw]; rfl)
      refine done_ (done_of HT_.out (by kernel_rfl)) ?_
      clear n0 n1 n2 n3 n4 m2 hHeld HT_ HW_
      try go_wp2
      go_roundw
      case rel => exact ⟨k + 1, by omega, by go_num, Lib.hid (by rw [HN.out]; exact HO.out), HB9⟩
      case measure => simp [intOf]; omega
    · obtain rfl : k = l.length := by omega
      have hs := HS.out
      rw [List.take_length] at hs
      have HS2 := Lib.hid hs
      have hlm : (l.map gvM ++ [mkC]).length = l.length + 1 := by simp
      have HLm := Lib.hid hlm
      obtain ⟨i1, hi1, _⟩ := info_parts info36
      have HI1 := Lib.hid hi1
      clear hs HS hlm hi1
      go_wp2_with ((with_reducible refine zax (b := .append) (xs := #[.tmp 83, .tmp 85]) rfl ?_); at_builtin; refine Kd.S_append kmC (w0 := w) w.heap.size rfl (.tmp 83) (.tmp 85) 23 36 _ 160 rfl Tryd.underlying23 info36 rfl (by decide) (by decide) u3 (l.map gvM) mkC [.int .i64 (-77), .int .i64 0, .int .i64 0, .int .i64 0, .string ⟨#[]⟩, .string ⟨#[]⟩, .string ⟨#[]⟩, .slice none 0 0, .int .i64 0, .int .i64 0, .slice none 0 0, .string ⟨#[]⟩] (fun k_ => w.heap.size ≤ k_) (fun _ => False) rfl rfl ?aP (fun _ hk => hk.elim) ?aF ?aO ?aB ?aS ?aL ?_; (case aP => exact kmC_mkM _ _ _ mkC (A7 := none) (c7 := 0) (A10 := none) (c10 := 0) (Kd.R_nil _ _ _ _ _) (Kd.R_nil _ _ _ _ _)); (case aF => exact fun k_ hk => Nat.le_trans HB.out.size hk); (case aO => exact Kd.S_mono HS2.out (fun _ hk => ⟨hk, fun h => h.elim⟩)); (case aB => exact HB.out); (case aS => exact HB.out.size); (case aL => rw [List.length_map]; omega); intro v9 w9 ho hb hg hat; obtain ⟨Av, cv, hv⟩ := Kd.S_slice ho; rw [HLm.out] at hv; subst hv; have hcv := (Kd.S_reads' ho).2.1; have hcut := cut_to (P := Tryd.prog) 23 36 .i64 Tryd.underlying23 HI1.out Av (l.length + 1) cv (l.length : Int) (by omega) (by omega) hcv; rw [Int.toNat_natCast] at hcut; have HO := Lib.hid ho; have HB9 := Lib.hid hb; clear ho hb hg hat hcv)
      go_ret
      exact ⟨Av, cv, rfl, HO.out, HB9.out⟩
end Go.Proofs.YtdmlgligljagoaaDoor

namespace Go.Proofs.YtdmlgligljagoaaDoor.PS
open Go.RowKit Go.Proofs.YtdmlgligljagoaaDoorW.PrintWords Go.Proofs.YtdmlgligljagoaaDoorW.PrintLast Go.Proofs.YtdmlgligljagoaaDoorW.PrintMore
attribute [local go_sem] zbg zbh max_two min_two zbe zbf zbi zbj   -- for this text's walks alone
set_option linter.unusedVariables false
set_option linter.unusedSimpArgs false

/-! ### stringslite_HasPrefix: function 67 -/
def stringslite_HasPrefix.f (a0 : ByteArray) (a1 : ByteArray) : Option (Bool) := if (a0.size : Int) ≥ (a1.size : Int) then (if 0 ≤ (a1.size : Int) then (if (a1.size : Int) ≤ (a0.size : Int) then (some ((a0.extract 0 ((a1.size : Int) : Int).toNat).toList == a1.toList)) else (none)) else (none)) else (some false)
set_option maxHeartbeats 8000000 in
set_option maxRecDepth 100000 in
theorem stringslite_HasPrefix.calls (a0 : ByteArray) (a1 : ByteArray) (r : Bool) (w : World) (h : stringslite_HasPrefix.f a0 a1 = some r) :
  Calls Tryd.prog 67 #[.string a0, .string a1] w fun e w' => e = .returned (.bool r) ∧ Drawn0 w w' := by
 have H : (if (a0.size : Int) ≥ (a1.size : Int) then (if 0 ≤ (a1.size : Int) then (if (a1.size : Int) ≤ (a0.size : Int) then (some ((a0.extract 0 ((a1.size : Int) : Int).toNat).toList == a1.toList)) else (none)) else (none)) else (some false)) = some r := h
 clear h
 by_cases c3 : (a0.size : Int) ≥ (a1.size : Int)
 rotate_left
 ·
  rw [if_neg c3] at H
  have c3b0 : decide ((a1.size : Int) ≤ (a0.size : Int)) = false := decide_eq_false c3
  have c3b1 : decide (a1.size ≤ a0.size) = false := decide_eq_false (fun h => c3 (Int.ofNat_le.mpr h))
  clear c3
  obtain rfl := Option.some.inj H
  go_enter Tryd.func67, Tryd.ntmps67
  go_wp2
  go_ret
  exact ⟨by first | rfl | (simp; done) | (simp [*]; done), by repeat (first | exact Drawn0.refl _ | apply Drawn0.step)⟩
 rw [if_pos c3] at H
 have c3b0 : decide ((a1.size : Int) ≤ (a0.size : Int)) = true := decide_eq_true c3
 have c3b1 : decide (a1.size ≤ a0.size) = true := decide_eq_true (Int.ofNat_le.mp c3)
 clear c3
 by_cases c4 : 0 ≤ (a1.size : Int)
 rotate_left
 ·
  rw [if_neg c4] at H
  exact absurd H (by simp)
 rw [if_pos c4] at H
 have c4b0 := eq_true c4
 have c4b1 : decide (0 ≤ (a1.size : Int)) = true := decide_eq_true c4
 clear c4
 by_cases c5 : (a1.size : Int) ≤ (a0.size : Int)
 rotate_left
 ·
  rw [if_neg c5] at H
  exact absurd H (by simp)
 rw [if_pos c5] at H
 have c5b0 := eq_true c5
 have c5b1 : decide ((a1.size : Int) ≤ (a0.size : Int)) = true := decide_eq_true c5
 clear c5
 obtain rfl := Option.some.inj H
 go_enter Tryd.func67, Tryd.ntmps67
 go_wp2
 go_ret
 exact ⟨by first | rfl | (simp; done) | (simp [*]; done), by repeat (first | exact Drawn0.refl _ | apply Drawn0.step)⟩

end Go.Proofs.YtdmlgligljagoaaDoor.PS

namespace Go.Proofs.YtdmlgligljagoaaDoor.PS
open Go.RowKit Go.Proofs.YtdmlgligljagoaaDoorW.PrintWords Go.Proofs.YtdmlgligljagoaaDoorW.PrintLast Go.Proofs.YtdmlgligljagoaaDoorW.PrintMore
attribute [local go_sem] zbg zbh max_two min_two zbe zbf zbi zbj   -- for this text's walks alone
set_option linter.unusedVariables false
set_option linter.unusedSimpArgs false

/-! ### strings_HasPrefix: function 53 -/
def strings_HasPrefix.f (a0 : ByteArray) (a1 : ByteArray) : Option (Bool) := (stringslite_HasPrefix.f a0 a1).bind fun t101 => (some t101)
set_option maxHeartbeats 8000000 in
set_option maxRecDepth 100000 in
theorem strings_HasPrefix.calls (a0 : ByteArray) (a1 : ByteArray) (r : Bool) (w : World) (h : strings_HasPrefix.f a0 a1 = some r) :
  Calls Tryd.prog 53 #[.string a0, .string a1] w fun e w' => e = .returned (.bool r) ∧ Drawn0 w w' := by
 have H : ((stringslite_HasPrefix.f a0 a1).bind fun t101 => (some t101)) = some r := h
 clear h
 replace H := Option.bind_eq_some_iff.mp H
 obtain ⟨t101, A30, H⟩ := H
 replace H : (some t101) = some r := H
 have A3 := Aside0.mk A30
 clear A30
 obtain rfl := Option.some.inj H
 go_enter Tryd.func53, Tryd.ntmps53
 go_wp2_with (first | ((with_reducible refine zay (f := 67) rfl ?_); refine goesL_ (some 7) rfl rfl Tryd.func67 (by kernel_rfl) rfl #[.string a0, .string a1] rfl (by (try simp only [List.map_toArray, List.map_cons, List.map_nil]); first | done | rfl | (simp only [List.length_drop, List.length_take]; rfl)) ?_; (with_reducible refine (stringslite_HasPrefix.calls a0 a1 t101 _ A3.out).mono ?_); rintro e w' ⟨rfl, ⟨nd, rfl⟩⟩; refine ⟨_, rfl, ?_⟩))
 go_ret
 exact ⟨by first | rfl | (simp; done) | (simp [*]; done), by repeat (first | exact Drawn0.refl _ | apply Drawn0.step)⟩

end Go.Proofs.YtdmlgligljagoaaDoor.PS

set_option linter.unusedVariables false
set_option linter.unusedSimpArgs false
namespace Go.Proofs.YtdmlgligljagoaaDoor
open Go.RowKit Go.Proofs.YtdmlgligljagoaaDoorW.PrintWords

/-- a row of texts that was made just now -/
theorem R_texts (w : World) (l : List ByteArray) (n : Nat) (hn : l.length = n) (hl : n ≤ maxLen) (e : TypeId) :
    Kd.R Kd.string e (w.alloc (.cells (l.map Value.string).toArray e)) w.heap.size (fun _ => True) (.slice (some ⟨w.heap.size, 0, none⟩) n n) l := by
  subst hn
  refine Kd.R_of_own (h1 := fun _ => rfl) ?_ (fun _ _ => trivial)
  exact ⟨by simp [encs], .inr ⟨w.heap.size, l.length, (l.map Value.string).toArray, rfl, Nat.le_refl _, heap_alloc_new _ _, Nat.le_refl _, hl, by simp, by simp [encs, List.take_of_length_le]⟩⟩
namespace PS
def strings_IndexByte.f (a0 : ByteArray) (a1 : Int) : Option (Int) := some (Lib.indexByte a0.data.toList a1.toNat.toUInt8)
theorem strings_IndexByte.calls (a0 : ByteArray) (a1 : Int) (r : Int) (w : World) (h : strings_IndexByte.f a0 a1 = some r) :
    Calls Tryd.prog 55 #[.string a0, .int .u8 a1] w fun e w' => e = .returned (.int .i64 r) ∧ Drawn0 w w' := by
  cases h
  refine (Tryd.strings_IndexByte a0 a1 w).mono ?_
  rintro e w' ⟨rfl, rfl⟩
  exact ⟨rfl, Drawn0.refl _⟩
def strconv_FormatInt.f (a0 : Int) (a1 : Int) : Option (ByteArray) := if a1 = 10 ∧ -9223372036854775808 ≤ a0 ∧ a0 ≤ 9223372036854775807 then some (bs (Lib.itoa a0)) else none
theorem strconv_FormatInt.calls (a0 : Int) (a1 : Int) (r : ByteArray) (w : World) (hT : Tab w) (h : strconv_FormatInt.f a0 a1 = some r) :
    Calls Tryd.prog 38 #[.int .i64 a0, .int .i64 a1] w fun e w' => e = .returned (.string r) ∧ Below w.heap.size w w' := by
  unfold strconv_FormatInt.f at h
  split at h
  · next hc =>
    cases h
    obtain ⟨rfl, h0, h1⟩ := hc
    refine (Tryd.strconv_FormatInt_10 a0 h0 h1 w hT.ten).mono ?_
    rintro e w' ⟨rfl, hg⟩
    exact ⟨rfl, below_grow hg⟩
  · cases h
def strings_Split.f (a0 : ByteArray) (a1 : ByteArray) : Option (List ByteArray) := if a0.size < 4294967281 ∧ 1 ≤ a1.size ∧ (Lib.splitB a1 0 (Lib.countB a0 a1) a0).length = Lib.countB a0 a1 + 1 ∧ Lib.countB a0 a1 + 1 ≤ maxLen then some (Lib.splitB a1 0 (Lib.countB a0 a1) a0) else none
theorem strings_Split.calls (a0 : ByteArray) (a1 : ByteArray) (r : List ByteArray) (w : World) (hT : Tab w) (h : strings_Split.f a0 a1 = some r) :
    Calls Tryd.prog 31 #[.string a0, .string a1] w fun e w' => ∃ v0_ : Value, e = .returned (v0_) ∧ Kd.R Kd.string 9 w' w.heap.size (fun _ => True) v0_ r ∧ Below w.heap.size w w' := by
  unfold strings_Split.f at h
  split at h
  · next hc =>
    cases h
    obtain ⟨h0, h1, h2, h3⟩ := hc
    obtain ⟨m, hm⟩ := hT.max
    refine (Tryd.strings_Split a0 a1 m w h0 hm h1).mono ?_
    rintro e w' ⟨rfl, rfl⟩
    exact ⟨_, rfl, R_texts w _ _ h2 h3 _, (Below.refl _ _).alloc (Nat.le_refl _) _⟩
  · cases h
end PS
end Go.Proofs.YtdmlgligljagoaaDoor

namespace Go.Proofs.YtdmlgligljagoaaDoor.PS
open Go.RowKit Go.Proofs.YtdmlgligljagoaaDoorW.PrintWords Go.Proofs.YtdmlgligljagoaaDoorW.PrintLast Go.Proofs.YtdmlgligljagoaaDoorW.PrintMore
attribute [local go_sem] zbg zbh max_two min_two zbe zbf zbi zbj   -- for this text's walks alone
set_option linter.unusedVariables false
set_option linter.unusedSimpArgs false

/-! ### script_digit: function 68 -/
def script_digit.f (a0 : ByteArray) (a1 : Int) : Option (Int) := if a1 ≥ (a0.size : Int) then (some (-1)) else (if 0 ≤ a1 then (if a1 < (a0.size : Int) then ((strings_IndexByte.f (⟨#[48, 49, 50, 51, 52, 53, 54, 55, 56, 57, 97, 98, 99, 100, 101, 102]⟩ : ByteArray) (bt a0 a1)).bind fun t102 => (some t102)) else (none)) else (none))
set_option maxHeartbeats 8000000 in
set_option maxRecDepth 100000 in
theorem script_digit.calls (a0 : ByteArray) (a1 : Int) (r : Int) (w : World) (h : script_digit.f a0 a1 = some r) :
  Calls Tryd.prog 68 #[.string a0, .int .i64 a1] w fun e w' => e = .returned (.int .i64 r) ∧ Drawn0 w w' := by
 have H : (if a1 ≥ (a0.size : Int) then (some (-1)) else (if 0 ≤ a1 then (if a1 < (a0.size : Int) then ((strings_IndexByte.f (⟨#[48, 49, 50, 51, 52, 53, 54, 55, 56, 57, 97, 98, 99, 100, 101, 102]⟩ : ByteArray) (bt a0 a1)).bind fun t102 => (some t102)) else (none)) else (none))) = some r := h
 clear h
 by_cases c3 : a1 ≥ (a0.size : Int)
 ·
  rw [if_pos c3] at H
  have c3b0 : decide ((a0.size : Int) ≤ a1) = true := decide_eq_true c3
  clear c3
  obtain rfl := Option.some.inj H
  go_enter Tryd.func68, Tryd.ntmps68
  go_wp2
  go_ret
  exact ⟨by first | rfl | (simp; done) | (simp [*]; done), by repeat (first | exact Drawn0.refl _ | apply Drawn0.step)⟩
 rw [if_neg c3] at H
 have c3b0 : decide ((a0.size : Int) ≤ a1) = false := decide_eq_false c3
 clear c3
 by_cases c4 : 0 ≤ a1
 rotate_left
 ·
  rw [if_neg c4] at H
  exact absurd H (by simp)
 rw [if_pos c4] at H
 have c4b0 : decide (0 ≤ a1) = true := decide_eq_true c4
 clear c4
 by_cases c5 : a1 < (a0.size : Int)
 rotate_left
 ·
  rw [if_neg c5] at H
  exact absurd H (by simp)
 rw [if_pos c5] at H
 have c5b0 : decide (a1 < (a0.size : Int)) = true := decide_eq_true c5
 clear c5
 replace H := Option.bind_eq_some_iff.mp H
 obtain ⟨t102, A70, H⟩ := H
 replace H : (some t102) = some r := H
 have A7 := Aside0.mk A70
 clear A70
 obtain rfl := Option.some.inj H
 have p6 : 0 ≤ (a1 : Int) := of_decide_eq_true (by first | (with_reducible assumption) | assumption)
 have q6 : a1 < (a0.size : Int) := of_decide_eq_true (by first | (with_reducible assumption) | assumption)
 have hx6 := bt_at a0 a1
 replace p6 := eq_true p6
 replace q6 := eq_true q6
 go_enter Tryd.func68, Tryd.ntmps68
 go_wp2_with (first | ((with_reducible refine zay (f := 55) rfl ?_); refine goesL_ (some 12) rfl rfl Tryd.func55 (by kernel_rfl) rfl #[.string (⟨#[48, 49, 50, 51, 52, 53, 54, 55, 56, 57, 97, 98, 99, 100, 101, 102]⟩ : ByteArray), .int .u8 (bt a0 a1)] rfl (by (try simp only [List.map_toArray, List.map_cons, List.map_nil]); first | done | rfl | (simp only [List.length_drop, List.length_take]; rfl)) ?_; (with_reducible refine (strings_IndexByte.calls (⟨#[48, 49, 50, 51, 52, 53, 54, 55, 56, 57, 97, 98, 99, 100, 101, 102]⟩ : ByteArray) (bt a0 a1) t102 _ A7.out).mono ?_); rintro e w' ⟨rfl, ⟨nd, rfl⟩⟩; refine ⟨_, rfl, ?_⟩))
 go_ret
 exact ⟨by first | rfl | (simp; done) | (simp [*]; done), by repeat (first | exact Drawn0.refl _ | apply Drawn0.step)⟩

end Go.Proofs.YtdmlgligljagoaaDoor.PS

namespace Go.Proofs.YtdmlgligljagoaaDoor.PS
open Go.RowKit Go.Proofs.YtdmlgligljagoaaDoorW.PrintWords Go.Proofs.YtdmlgligljagoaaDoorW.PrintLast Go.Proofs.YtdmlgligljagoaaDoorW.PrintMore
attribute [local go_sem] zbg zbh max_two min_two zbe zbf zbi zbj   -- for this text's walks alone
set_option linter.unusedVariables false
set_option linter.unusedSimpArgs false

/-! ### script_quoted: function 54 -/
mutual
def script_quoted.l0 : Nat → ByteArray → List Int → Int → Option (ByteArray × ByteArray × Bool)
 | 0, _, _, _ => none
 | k + 1, x0, x5, x6 => if x6 < (x0.size : Int) then (if 0 ≤ x6 then (if (bt x0 x6) = 34 then (if x6 ≥ (x0.size : Int) then (some ((⟨#[]⟩ : ByteArray), (⟨#[]⟩ : ByteArray), false)) else (if 0 ≤ (wrap64 (x6 + 1)) then (if (wrap64 (x6 + 1)) ≤ (x0.size : Int) then (some (strOfNums x5, x0.extract ((wrap64 (x6 + 1)) : Int).toNat x0.size, true)) else (none)) else (none))) else (if (bt x0 x6) < 32 then (script_quoted.j1 k x0 x5 x6 (bt x0 x6) true) else (script_quoted.j1 k x0 x5 x6 (bt x0 x6) (decide ((bt x0 x6) > 126))))) else (none)) else (if x6 ≥ (x0.size : Int) then (some ((⟨#[]⟩ : ByteArray), (⟨#[]⟩ : ByteArray), false)) else (if 0 ≤ (wrap64 (x6 + 1)) then (if (wrap64 (x6 + 1)) ≤ (x0.size : Int) then (some (strOfNums x5, x0.extract ((wrap64 (x6 + 1)) : Int).toNat x0.size, true)) else (none)) else (none)))
def script_quoted.j1 : Nat → ByteArray → List Int → Int → Int → Bool → Option (ByteArray × ByteArray × Bool)
 | 0, _, _, _, _, _ => none
 | k + 1, x0, x5, x6, x7, x18 => if x18 = true then (some ((⟨#[]⟩ : ByteArray), (⟨#[]⟩ : ByteArray), false)) else (if x7 = 92 then (if (wrap64 (x6 + 1)) < (x0.size : Int) then (if 0 ≤ (wrap64 (x6 + 1)) then (if (bt x0 (wrap64 (x6 + 1))) = 34 then (script_quoted.j2 k x0 x5 x6 true) else (script_quoted.j2 k x0 x5 x6 ((bt x0 (wrap64 (x6 + 1))) == 92))) else (none)) else (script_quoted.j2 k x0 x5 x6 false)) else (if x5.length < 140737488355328 then (script_quoted.l0 k x0 (x5 ++ [x7]) (wrap64 (x6 + 1))) else (none)))
def script_quoted.j2 : Nat → ByteArray → List Int → Int → Bool → Option (ByteArray × ByteArray × Bool)
 | 0, _, _, _, _ => none
 | k + 1, x0, x5, x6, x34 => if x34 = true then (if 0 ≤ (wrap64 (x6 + 1)) then (if (wrap64 (x6 + 1)) < (x0.size : Int) then (if x5.length < 140737488355328 then (script_quoted.l0 k x0 (x5 ++ [bt x0 (wrap64 (x6 + 1))]) (wrap64 (x6 + 2))) else (none)) else (none)) else (none)) else (if (wrap64 (x6 + 1)) < (x0.size : Int) then (if 0 ≤ (wrap64 (x6 + 1)) then (if (bt x0 (wrap64 (x6 + 1))) = 120 then ((script_digit.f x0 (wrap64 (x6 + 2))).bind fun t106 => (if t106 ≥ 0 then ((script_digit.f x0 (wrap64 (x6 + 3))).bind fun t107 => (script_quoted.j3 k x0 x5 x6 (decide (t107 ≥ 0)))) else (script_quoted.j3 k x0 x5 x6 false))) else (script_quoted.j3 k x0 x5 x6 false)) else (none)) else (script_quoted.j3 k x0 x5 x6 false))
def script_quoted.j3 : Nat → ByteArray → List Int → Int → Bool → Option (ByteArray × ByteArray × Bool)
 | 0, _, _, _, _ => none
 | k + 1, x0, x5, x6, x63 => if x63 = true then ((script_digit.f x0 (wrap64 (x6 + 2))).bind fun t108 => ((script_digit.f x0 (wrap64 (x6 + 3))).bind fun t109 => (if x5.length < 140737488355328 then (script_quoted.l0 k x0 (x5 ++ [(wrap64 ((wrap64 (16 * t108)) + t109)) % 256]) (wrap64 (x6 + 4))) else (none)))) else (some ((⟨#[]⟩ : ByteArray), (⟨#[]⟩ : ByteArray), false))
end
def script_quoted.f (k : Nat) (a0 : ByteArray) : Option (ByteArray × ByteArray × Bool) := script_quoted.l0 k a0 ([] : List Int) 1
set_option maxHeartbeats 8000000 in
set_option maxRecDepth 100000 in
theorem script_quoted.calls (k : Nat) (a0 : ByteArray) (r1 : ByteArray) (r2 : ByteArray) (r3 : Bool) (w : World) (h : script_quoted.f k a0 = some (r1, r2, r3)) :
  Calls Tryd.prog 54 #[.string a0] w fun e w' => e = .returned (.tuple #[.string r1, .string r2, .bool r3]) ∧ Below w.heap.size w w' := by
 have HB := Aside0.mk (Below.refl w.heap.size w)
 have H : (script_quoted.l0 k a0 ([] : List Int) 1) = some (r1, r2, r3) := h
 clear h
 have H' := Aside0.mk H
 clear H
 go_enter Tryd.func54, Tryd.ntmps54
 first | go_step3 | (go_wp2; go_step3)
 go_wp2
 repeat (go_quiet (fail); try go_wp2)
 try (go_step3; go_wp2)
 go_loopg [5, 6] k (fun kq v5 v6 w' => ∃ (x5_1 : List Int) (x6_1 : Int), v6 = .int .i64 x6_1 ∧ Aside0 (script_quoted.l0 kq a0 x5_1 x6_1 = some (r1, r2, r3)) ∧ Aside0 (kq ≤ k) ∧ Aside0 (Kd.R (Kd.int .u8) 5 w' w.heap.size (fun _ => True) v5 x5_1) ∧ Aside0 (Below w.heap.size w w'))
 case atStart => exact ⟨(([] : List Int)), (1), (by first | rfl | (simp; done) | (simp [*]; done)), H', ⟨Nat.le_refl _⟩, ⟨by first | exact Kd.R_nil _ _ _ _ _ | exact Kd.N_nil _ _ _ _ _ | exact Kd.V_nil _ _ _ _ _ | exact Kd.Q_nil _ _ _ _ _ | exact Kd.S_nil _ _ _ _ _⟩, ⟨by repeat with_reducible first | exact HB.out | apply zae | apply zac | apply zad⟩⟩
 case round =>
  clear H'
  obtain ⟨x5_1, x6_1, rfl, HA, HK1, HO_5, HB⟩ := hrel
  cases gk with
  | zero => exact absurd HA.out (by simp [script_quoted.l0])
  | succ k1 =>
   have H := HA.out
   clear HA
   simp only [script_quoted.l0] at H
   by_cases c2 : x6_1 < (a0.size : Int)
   rotate_left
   ·
    rw [if_neg c2] at H
    have c2b0 : decide (x6_1 < (a0.size : Int)) = false := decide_eq_false c2
    clear c2
    by_cases c45 : x6_1 ≥ (a0.size : Int)
    ·
     rw [if_pos c45] at H
     have c45b0 : decide ((a0.size : Int) ≤ x6_1) = true := decide_eq_true c45
     clear c45
     simp only [Option.some.injEq, Prod.mk.injEq] at H
     obtain ⟨rfl, rfl, rfl⟩ := H
     go_wp2
     repeat (go_quiet (fail); try go_wp2)
     try rw [Exit.noGoto_ret]
     go_ret3
     exact ⟨by first | rfl | (simp [zam, zan] <;> rfl) | (simp [*, zam, zan] <;> rfl), by repeat with_reducible first | exact HB.out | apply zae | apply zac | apply zad⟩
    rw [if_neg c45] at H
    have c45b0 : decide ((a0.size : Int) ≤ x6_1) = false := decide_eq_false c45
    clear c45
    obtain ⟨ji46, hji46⟩ : ∃ j_ : Int, (wrap64 (x6_1 + 1)) = j_ := ⟨_, rfl⟩
    replace H : (if 0 ≤ (ji46) then (if (ji46) ≤ (a0.size : Int) then (some (strOfNums x5_1, a0.extract ((ji46) : Int).toNat a0.size, true)) else (none)) else (none)) = some (r1, r2, r3) := by first | (rw [hji46] at H; exact H) | (simp only [hji46] at H ⊢; exact H)
    have hji46w : (IntKind.i64.wrap (x6_1 + 1)) = ji46 := (i64_w _).trans hji46
    by_cases c47 : 0 ≤ (ji46)
    rotate_left
    ·
     rw [if_neg c47] at H
     exact absurd H (by simp)
    rw [if_pos c47] at H
    have c47b0 := eq_true c47
    have c47b1 : decide (0 ≤ (ji46)) = true := decide_eq_true c47
    clear c47
    by_cases c48 : (ji46) ≤ (a0.size : Int)
    rotate_left
    ·
     rw [if_neg c48] at H
     exact absurd H (by simp)
    rw [if_pos c48] at H
    have c48b0 := eq_true c48
    have c48b1 : decide ((ji46) ≤ (a0.size : Int)) = true := decide_eq_true c48
    clear c48
    simp only [Option.some.injEq, Prod.mk.injEq] at H
    obtain ⟨rfl, rfl, rfl⟩ := H
    have hcv49 := own_string (P := Tryd.prog) Tryd.underlying49 Tryd.underlying5 Tryd.underlying9 (Kd.own_of_R HO_5.out)
    have hcv49d := fun n_ => own_string (P := Tryd.prog) Tryd.underlying49 Tryd.underlying5 Tryd.underlying9 (Kd.own_of_R (Kd.R_drewN HO_5.out n_))
    go_wp2
    repeat (go_quiet (fail); try go_wp2)
    try rw [Exit.noGoto_ret]
    go_ret3
    exact ⟨by first | rfl | (simp [zam, zan] <;> rfl) | (simp only [← hji46]; first | rfl | (simp [zam, zan] <;> rfl)) | (simp [*, zam, zan] <;> rfl), by repeat with_reducible first | exact HB.out | apply zae | apply zac | apply zad⟩
   rw [if_pos c2] at H
   have c2b0 : decide (x6_1 < (a0.size : Int)) = true := decide_eq_true c2
   clear c2
   by_cases c3 : 0 ≤ x6_1
   rotate_left
   ·
    rw [if_neg c3] at H
    exact absurd H (by simp)
   rw [if_pos c3] at H
   have c3b0 : decide (0 ≤ x6_1) = true := decide_eq_true c3
   clear c3
   by_cases c5 : (bt a0 x6_1) = 34
   ·
    rw [if_pos c5] at H
    have c5b0 : ((bt a0 x6_1) == 34) = true := beq_iff_eq.mpr c5
    have c5b1 : ((bt a0 x6_1) != 34) = false := bne_eq_false_iff_eq.mpr c5
    clear c5
    by_cases c6 : x6_1 ≥ (a0.size : Int)
    ·
     rw [if_pos c6] at H
     have c6b0 : decide ((a0.size : Int) ≤ x6_1) = true := decide_eq_true c6
     clear c6
     simp only [Option.some.injEq, Prod.mk.injEq] at H
     obtain ⟨rfl, rfl, rfl⟩ := H
     have p4 : 0 ≤ (x6_1 : Int) := of_decide_eq_true (by first | (with_reducible assumption) | assumption)
     have q4 : x6_1 < (a0.size : Int) := of_decide_eq_true (by first | (with_reducible assumption) | assumption)
     have hx4 := bt_at a0 x6_1
     replace p4 := eq_true p4
     replace q4 := eq_true q4
     go_wp2
     repeat (go_quiet (fail); try go_wp2)
     try rw [Exit.noGoto_ret]
     go_ret3
     exact ⟨by first | rfl | (simp [zam, zan] <;> rfl) | (simp [*, zam, zan] <;> rfl), by repeat with_reducible first | exact HB.out | apply zae | apply zac | apply zad⟩
    rw [if_neg c6] at H
    have c6b0 : decide ((a0.size : Int) ≤ x6_1) = false := decide_eq_false c6
    clear c6
    obtain ⟨ji7, hji7⟩ : ∃ j_ : Int, (wrap64 (x6_1 + 1)) = j_ := ⟨_, rfl⟩
    replace H : (if 0 ≤ (ji7) then (if (ji7) ≤ (a0.size : Int) then (some (strOfNums x5_1, a0.extract ((ji7) : Int).toNat a0.size, true)) else (none)) else (none)) = some (r1, r2, r3) := by first | (rw [hji7] at H; exact H) | (simp only [hji7] at H ⊢; exact H)
    have hji7w : (IntKind.i64.wrap (x6_1 + 1)) = ji7 := (i64_w _).trans hji7
    by_cases c8 : 0 ≤ (ji7)
    rotate_left
    ·
     rw [if_neg c8] at H
     exact absurd H (by simp)
    rw [if_pos c8] at H
    have c8b0 := eq_true c8
    have c8b1 : decide (0 ≤ (ji7)) = true := decide_eq_true c8
    clear c8
    by_cases c9 : (ji7) ≤ (a0.size : Int)
    rotate_left
    ·
     rw [if_neg c9] at H
     exact absurd H (by simp)
    rw [if_pos c9] at H
    have c9b0 := eq_true c9
    have c9b1 : decide ((ji7) ≤ (a0.size : Int)) = true := decide_eq_true c9
    clear c9
    simp only [Option.some.injEq, Prod.mk.injEq] at H
    obtain ⟨rfl, rfl, rfl⟩ := H
    have p4 : 0 ≤ (x6_1 : Int) := of_decide_eq_true (by first | (with_reducible assumption) | assumption)
    have q4 : x6_1 < (a0.size : Int) := of_decide_eq_true (by first | (with_reducible assumption) | assumption)
    have hx4 := bt_at a0 x6_1
    replace p4 := eq_true p4
    replace q4 := eq_true q4
    have hcv10 := own_string (P := Tryd.prog) Tryd.underlying49 Tryd.underlying5 Tryd.underlying9 (Kd.own_of_R HO_5.out)
    have hcv10d := fun n_ => own_string (P := Tryd.prog) Tryd.underlying49 Tryd.underlying5 Tryd.underlying9 (Kd.own_of_R (Kd.R_drewN HO_5.out n_))
    go_wp2
    repeat (go_quiet (fail); try go_wp2)
    try rw [Exit.noGoto_ret]
    go_ret3
    exact ⟨by first | rfl | (simp [zam, zan] <;> rfl) | (simp only [← hji7]; first | rfl | (simp [zam, zan] <;> rfl)) | (simp [*, zam, zan] <;> rfl), by repeat with_reducible first | exact HB.out | apply zae | apply zac | apply zad⟩
   rw [if_neg c5] at H
   have c5b0 : ((bt a0 x6_1) == 34) = false := beq_eq_false_iff_ne.mpr c5
   have c5b1 : ((bt a0 x6_1) != 34) = true := bne_iff_ne.mpr c5
   have HC11 := Aside0.mk H
   clear H
   have p4 : 0 ≤ (x6_1 : Int) := of_decide_eq_true (by first | (with_reducible assumption) | assumption)
   have q4 : x6_1 < (a0.size : Int) := of_decide_eq_true (by first | (with_reducible assumption) | assumption)
   have hx4 := bt_at a0 x6_1
   replace p4 := eq_true p4
   replace q4 := eq_true q4
   go_upto_region 7 with (fail)
   repeat (go_quiet (fail); go_upto_region 7 with (fail))
   go_cut [18] (fun v18 wc => ∃ (kq : Nat) (x18_10 : Bool), v18 = .bool x18_10 ∧ Aside0 (script_quoted.j1 kq a0 x5_1 x6_1 (bt a0 x6_1) x18_10 = some (r1, r2, r3)) ∧ Aside0 (kq ≤ k1) ∧ Aside0 (Kd.R (Kd.int .u8) 5 wc w.heap.size (fun _ => True) u5 x5_1) ∧ Aside0 (Below w.heap.size w wc))
   case first =>
    have H := HC11.out
    clear HC11
    by_cases c12 : (bt a0 x6_1) < 32
    ·
     rw [if_pos c12] at H
     have c12b0 : decide ((bt a0 x6_1) < 32) = true := decide_eq_true c12
     clear c12
     (first | rw [c12b0] | (simp only [i64_w, i32_w]; rw [c12b0]) | rw [c12b2] | skip)
     have H' := Aside0.mk H
     clear H
     go_wp2
     repeat (go_quiet (fail); try go_wp2)
     go_meet
     case rel => exact ⟨_, (true), (by first | rfl | (simp; done) | (simp [*]; done)), H', ⟨by have := HK1.out; first | omega | exact Nat.le_refl _⟩, ⟨by (with_reducible repeat (first | apply Kd.R_alloc | apply Kd.R_drewN | apply Kd.R_drew)); exact HO_5.out⟩, ⟨by repeat with_reducible first | exact HB.out | apply zae | apply zac | apply zad⟩⟩
    rw [if_neg c12] at H
    have c12b0 : decide ((bt a0 x6_1) < 32) = false := decide_eq_false c12
    clear c12
    (first | rw [c12b0] | (simp only [i64_w, i32_w]; rw [c12b0]) | rw [c12b2] | skip)
    have H' := Aside0.mk H
    clear H
    go_wp2
    repeat (go_quiet (fail); try go_wp2)
    go_meet
    case rel => exact ⟨_, (decide ((bt a0 x6_1) > 126)), (by first | rfl | (simp; done) | (simp [*]; done)), H', ⟨by have := HK1.out; first | omega | exact Nat.le_refl _⟩, ⟨by (with_reducible repeat (first | apply Kd.R_alloc | apply Kd.R_drewN | apply Kd.R_drew)); exact HO_5.out⟩, ⟨by repeat with_reducible first | exact HB.out | apply zae | apply zac | apply zad⟩⟩
   case rest =>
    clear HC11
    try clear c1
    try clear hcv1
    try clear c2
    try clear c2b0
    try clear p2
    try clear c3
    try clear c3b0
    try clear p3
    try clear p4
    try clear q4
    try clear hx4
    try clear c5
    try clear c5b0
    try clear c5b1
    try clear c6
    try clear c6b0
    try clear p6
    try clear c8
    try clear c8b0
    try clear c8b1
    try clear c9
    try clear c9b0
    try clear c9b1
    try clear hcv10
    try clear c12
    try clear c12b0
    try clear c12b2
    try clear p4
    try clear q4
    obtain ⟨kq, x18_10, rfl, HA, HJ10, HO_5, HB⟩ := hcut
    cases kq with
    | zero => exact absurd HA.out (by simp [script_quoted.j1])
    | succ kj10 =>
     have H := HA.out
     clear HA
     simp only [script_quoted.j1] at H
     by_cases c13 : x18_10 = true
     ·
      subst c13
      have H1 : (some ((⟨#[]⟩ : ByteArray), (⟨#[]⟩ : ByteArray), false)) = some (r1, r2, r3) := by rw [if_pos rfl] at H; exact H
      clear H
      have H := H1
      clear H1
      simp only [Option.some.injEq, Prod.mk.injEq] at H
      obtain ⟨rfl, rfl, rfl⟩ := H
      go_wp2
      repeat (go_quiet (fail); try go_wp2)
      try rw [Exit.noGoto_ret]
      go_ret3
      exact ⟨by first | rfl | (simp [zam, zan] <;> rfl) | (simp [*, zam, zan] <;> rfl), by repeat with_reducible first | exact HB.out | apply zae | apply zac | apply zad⟩
     replace c13 := Bool.eq_false_iff.mpr c13
     subst c13
     have H1 : (if (bt a0 x6_1) = 92 then (if (wrap64 (x6_1 + 1)) < (a0.size : Int) then (if 0 ≤ (wrap64 (x6_1 + 1)) then (if (bt a0 (wrap64 (x6_1 + 1))) = 34 then (script_quoted.j2 kj10 a0 x5_1 x6_1 true) else (script_quoted.j2 kj10 a0 x5_1 x6_1 ((bt a0 (wrap64 (x6_1 + 1))) == 92))) else (none)) else (script_quoted.j2 kj10 a0 x5_1 x6_1 false)) else (if x5_1.length < 140737488355328 then (script_quoted.l0 kj10 a0 (x5_1 ++ [(bt a0 x6_1)]) (wrap64 (x6_1 + 1))) else (none))) = some (r1, r2, r3) := by rw [if_neg (show ¬ (false = true) by decide)] at H; exact H
     clear H
     have H := H1
     clear H1
     by_cases c14 : (bt a0 x6_1) = 92
     rotate_left
     ·
      rw [if_neg c14] at H
      have c14b0 : ((bt a0 x6_1) == 92) = false := beq_eq_false_iff_ne.mpr c14
      have c14b1 : ((bt a0 x6_1) != 92) = true := bne_iff_ne.mpr c14
      by_cases c43 : x5_1.length < 140737488355328
      rotate_left
      ·
       rw [if_neg c43] at H
       exact absurd H (by simp)
      rw [if_pos c43] at H
      have LMc43 := Aside0.mk c43
      clear c43
      obtain ⟨y113, hy113⟩ : ∃ y_ : List Int, y_ = (x5_1 ++ [(bt a0 x6_1)]) := ⟨_, rfl⟩
      replace H : (script_quoted.l0 kj10 a0 y113 (wrap64 (x6_1 + 1))) = some (r1, r2, r3) := by first | (rw [hy113]; with_reducible exact H) | (have H2_ := (Option.bind_some _ _).symm.trans H; rw [hy113]; with_reducible exact H2_) | (have H2_ := (Option.bind_some _ _).symm.trans H; with_reducible exact H2_) | with_reducible exact H | (rw [hy113]; exact H) | exact H
      have Ny113 := Aside0.mk hy113
      clear hy113
      have H' := Aside0.mk H
      clear H
      go_wp2_with (first | ((with_reducible refine zax (b := .append) (xs := #[.tmp 28, .tmp 30]) rfl ?_); at_builtin; refine Kd.R_append (Kd.int .u8) (w0 := w) w.heap.size rfl (.tmp 28) (.tmp 30) 49 5 (.int .u8 0) 1 rfl Tryd.underlying49 info5 rfl (by decide) (by omega) u5 x5_1 (bt a0 x6_1) [.int .u8 (bt a0 x6_1)] (fun _ => True) (fun _ => False) rfl rfl ?aP (fun _ hk => hk.elim) ?aF ?aO ?aB ?aS ?aL ?_; (case aP => exact rfl); (case aB => exact (by repeat with_reducible first | exact HB.out | apply zae | apply zac | apply zad)); (case aF => exact (fun _ _ => trivial)); (case aO => exact (by (with_reducible repeat (first | apply Kd.R_alloc | apply Kd.R_drewN | apply Kd.R_drew)); exact HO_5.out)); (case aS => exact (zal (by repeat with_reducible first | exact HB.out | apply zae | apply zac | apply zad))); (case aL => have := LMc43.out; omega); intro v114 w44 ho hb hg hat; rw [← Ny113.out] at ho; have n0_ := Aside0.mk (hb); have n1_ := Aside0.mk (ho); clear HB; clear HO_5; have HB := n0_; have HO115 := n1_; clear n0_ n1_; clear ho hb hg hat))
      repeat (go_quiet (first | ((with_reducible refine zax (b := .append) (xs := #[.tmp 28, .tmp 30]) rfl ?_); at_builtin; refine Kd.R_append (Kd.int .u8) (w0 := w) w.heap.size rfl (.tmp 28) (.tmp 30) 49 5 (.int .u8 0) 1 rfl Tryd.underlying49 info5 rfl (by decide) (by omega) u5 x5_1 (bt a0 x6_1) [.int .u8 (bt a0 x6_1)] (fun _ => True) (fun _ => False) rfl rfl ?aP (fun _ hk => hk.elim) ?aF ?aO ?aB ?aS ?aL ?_; (case aP => exact rfl); (case aB => exact (by repeat with_reducible first | exact HB.out | apply zae | apply zac | apply zad)); (case aF => exact (fun _ _ => trivial)); (case aO => exact (by (with_reducible repeat (first | apply Kd.R_alloc | apply Kd.R_drewN | apply Kd.R_drew)); exact HO_5.out)); (case aS => exact (zal (by repeat with_reducible first | exact HB.out | apply zae | apply zac | apply zad))); (case aL => have := LMc43.out; omega); intro v114 w44 ho hb hg hat; rw [← Ny113.out] at ho; have n0_ := Aside0.mk (hb); have n1_ := Aside0.mk (ho); clear HB; clear HO_5; have HB := n0_; have HO115 := n1_; clear n0_ n1_; clear ho hb hg hat)); try go_wp2_with (first | ((with_reducible refine zax (b := .append) (xs := #[.tmp 28, .tmp 30]) rfl ?_); at_builtin; refine Kd.R_append (Kd.int .u8) (w0 := w) w.heap.size rfl (.tmp 28) (.tmp 30) 49 5 (.int .u8 0) 1 rfl Tryd.underlying49 info5 rfl (by decide) (by omega) u5 x5_1 (bt a0 x6_1) [.int .u8 (bt a0 x6_1)] (fun _ => True) (fun _ => False) rfl rfl ?aP (fun _ hk => hk.elim) ?aF ?aO ?aB ?aS ?aL ?_; (case aP => exact rfl); (case aB => exact (by repeat with_reducible first | exact HB.out | apply zae | apply zac | apply zad)); (case aF => exact (fun _ _ => trivial)); (case aO => exact (by (with_reducible repeat (first | apply Kd.R_alloc | apply Kd.R_drewN | apply Kd.R_drew)); exact HO_5.out)); (case aS => exact (zal (by repeat with_reducible first | exact HB.out | apply zae | apply zac | apply zad))); (case aL => have := LMc43.out; omega); intro v114 w44 ho hb hg hat; rw [← Ny113.out] at ho; have n0_ := Aside0.mk (hb); have n1_ := Aside0.mk (ho); clear HB; clear HO_5; have HB := n0_; have HO115 := n1_; clear n0_ n1_; clear ho hb hg hat)))
      go_roundg kj10
      case measure => have := HK1.out; have := HJ10.out; omega
      case rel => exact ⟨(y113), (wrap64 (x6_1 + 1)), (by first | rfl | (simp; done) | (simp [*]; done)), H', ⟨by have := HK1.out; have := HJ10.out; omega⟩, ⟨by (with_reducible repeat (first | apply Kd.R_alloc | apply Kd.R_drewN | apply Kd.R_drew)); exact HO115.out⟩, ⟨by repeat with_reducible first | exact HB.out | apply zae | apply zac | apply zad⟩⟩
     rw [if_pos c14] at H
     have c14b0 : ((bt a0 x6_1) == 92) = true := beq_iff_eq.mpr c14
     have c14b1 : ((bt a0 x6_1) != 92) = false := bne_eq_false_iff_eq.mpr c14
     clear c14
     have HC15 := Aside0.mk H
     clear H
     go_upto_region 12 with (fail)
     repeat (go_quiet (fail); go_upto_region 12 with (fail))
     go_cut [34] (fun v34 wc => ∃ (kq : Nat) (x34_14 : Bool), v34 = .bool x34_14 ∧ Aside0 (script_quoted.j2 kq a0 x5_1 x6_1 x34_14 = some (r1, r2, r3)) ∧ Aside0 (kq ≤ kj10) ∧ Aside0 (Kd.R (Kd.int .u8) 5 wc w.heap.size (fun _ => True) u5 x5_1) ∧ Aside0 (Below w.heap.size w wc))
     case first =>
      have H := HC15.out
      clear HC15
      by_cases c16 : (wrap64 (x6_1 + 1)) < (a0.size : Int)
      rotate_left
      ·
       rw [if_neg c16] at H
       have c16b0 : decide ((wrap64 (x6_1 + 1)) < (a0.size : Int)) = false := decide_eq_false c16
       clear c16
       (first | rw [c16b0] | (simp only [i64_w, i32_w]; rw [c16b0]) | rw [c16b2] | skip)
       have H' := Aside0.mk H
       clear H
       go_wp2
       repeat (go_quiet (fail); try go_wp2)
       go_meet
       case rel => exact ⟨_, (false), (by first | rfl | (simp; done) | (simp [*]; done)), H', ⟨by have := HK1.out; have := HJ10.out; first | omega | exact Nat.le_refl _⟩, ⟨by (with_reducible repeat (first | apply Kd.R_alloc | apply Kd.R_drewN | apply Kd.R_drew)); exact HO_5.out⟩, ⟨by repeat with_reducible first | exact HB.out | apply zae | apply zac | apply zad⟩⟩
      rw [if_pos c16] at H
      have c16b0 : decide ((wrap64 (x6_1 + 1)) < (a0.size : Int)) = true := decide_eq_true c16
      clear c16
      (first | rw [c16b0] | (simp only [i64_w, i32_w]; rw [c16b0]) | rw [c16b2] | skip)
      obtain ⟨ji17, hji17⟩ : ∃ j_ : Int, (wrap64 (x6_1 + 1)) = j_ := ⟨_, rfl⟩
      replace H : (if 0 ≤ (ji17) then (if (bt a0 (ji17)) = 34 then (script_quoted.j2 kj10 a0 x5_1 x6_1 true) else (script_quoted.j2 kj10 a0 x5_1 x6_1 ((bt a0 (ji17)) == 92))) else (none)) = some (r1, r2, r3) := by first | (rw [hji17] at H; exact H) | (simp only [hji17] at H ⊢; exact H)
      (try rw [hji17] at c16b0)
      have hji17w : (IntKind.i64.wrap (x6_1 + 1)) = ji17 := (i64_w _).trans hji17
      by_cases c18 : 0 ≤ (ji17)
      rotate_left
      ·
       rw [if_neg c18] at H
       exact absurd H (by simp)
      rw [if_pos c18] at H
      have c18b0 : decide (0 ≤ (ji17)) = true := decide_eq_true c18
      clear c18
      by_cases c20 : (bt a0 (ji17)) = 34
      ·
       rw [if_pos c20] at H
       have c20b0 : ((bt a0 (ji17)) == 34) = true := beq_iff_eq.mpr c20
       have c20b1 : ((bt a0 (ji17)) != 34) = false := bne_eq_false_iff_eq.mpr c20
       clear c20
       have H' := Aside0.mk H
       clear H
       have p19 : 0 ≤ ((ji17) : Int) := of_decide_eq_true (by first | (with_reducible assumption) | assumption)
       have q19 : (ji17) < (a0.size : Int) := of_decide_eq_true (by first | (with_reducible assumption) | assumption)
       have hx19 := bt_at a0 (ji17)
       replace p19 := eq_true p19
       replace q19 := eq_true q19
       go_wp2
       repeat (go_quiet (fail); try go_wp2)
       go_meet
       case rel => exact ⟨_, (true), (by first | rfl | (simp; done) | (simp [*]; done)), H', ⟨by have := HK1.out; have := HJ10.out; first | omega | exact Nat.le_refl _⟩, ⟨by (with_reducible repeat (first | apply Kd.R_alloc | apply Kd.R_drewN | apply Kd.R_drew)); exact HO_5.out⟩, ⟨by repeat with_reducible first | exact HB.out | apply zae | apply zac | apply zad⟩⟩
      rw [if_neg c20] at H
      have c20b0 : ((bt a0 (ji17)) == 34) = false := beq_eq_false_iff_ne.mpr c20
      have c20b1 : ((bt a0 (ji17)) != 34) = true := bne_iff_ne.mpr c20
      have H' := Aside0.mk H
      clear H
      have p19 : 0 ≤ ((ji17) : Int) := of_decide_eq_true (by first | (with_reducible assumption) | assumption)
      have q19 : (ji17) < (a0.size : Int) := of_decide_eq_true (by first | (with_reducible assumption) | assumption)
      have hx19 := bt_at a0 (ji17)
      replace p19 := eq_true p19
      replace q19 := eq_true q19
      have p21 : 0 ≤ ((ji17) : Int) := of_decide_eq_true (by first | (with_reducible assumption) | assumption)
      have q21 : (ji17) < (a0.size : Int) := of_decide_eq_true (by first | (with_reducible assumption) | assumption)
      have hx21 := bt_at a0 (ji17)
      replace p21 := eq_true p21
      replace q21 := eq_true q21
      go_wp2
      repeat (go_quiet (fail); try go_wp2)
      go_meet
      case rel => exact ⟨_, (((bt a0 (ji17)) == 92)), (by first | rfl | (simp; done) | (simp only [← hji17] <;> (first | rfl | simp)) | (simp [*]; done)), H', ⟨by have := HK1.out; have := HJ10.out; first | omega | exact Nat.le_refl _⟩, ⟨by (with_reducible repeat (first | apply Kd.R_alloc | apply Kd.R_drewN | apply Kd.R_drew)); exact HO_5.out⟩, ⟨by repeat with_reducible first | exact HB.out | apply zae | apply zac | apply zad⟩⟩
     case rest =>
      clear HC15
      try clear c1
      try clear p1
      try clear q1
      try clear hx1
      try clear hcv1
      try clear c2
      try clear c2b0
      try clear p2
      try clear q2
      try clear hx2
      try clear c3
      try clear c3b0
      try clear p3
      try clear p4
      try clear q4
      try clear hx4
      try clear c5
      try clear c5b0
      try clear c5b1
      try clear c6
      try clear c6b0
      try clear p6
      try clear c8
      try clear c8b0
      try clear c8b1
      try clear c9
      try clear c9b0
      try clear c9b1
      try clear hcv10
      try clear c12
      try clear c12b0
      try clear c12b2
      try clear c13
      try clear c14
      try clear c14b0
      try clear c14b1
      try clear c16
      try clear c16b0
      try clear c16b2
      try clear c18
      try clear c18b0
      try clear p19
      try clear q19
      try clear hx19
      try clear c20
      try clear c20b0
      try clear c20b1
      try clear p21
      try clear q21
      try clear hx21
      try clear p19
      try clear p2
      try clear p21
      try clear p3
      try clear p4
      try clear p6
      try clear q19
      try clear q21
      try clear q4
      obtain ⟨kq, x34_14, rfl, HA, HJ14, HO_5, HB⟩ := hcut
      cases kq with
      | zero => exact absurd HA.out (by simp [script_quoted.j2])
      | succ kj14 =>
       have H := HA.out
       clear HA
       simp only [script_quoted.j2] at H
       by_cases c22 : x34_14 = true
       ·
        subst c22
        have H1 : (if 0 ≤ (wrap64 (x6_1 + 1)) then (if (wrap64 (x6_1 + 1)) < (a0.size : Int) then (if x5_1.length < 140737488355328 then (script_quoted.l0 kj14 a0 (x5_1 ++ [bt a0 (wrap64 (x6_1 + 1))]) (wrap64 (x6_1 + 2))) else (none)) else (none)) else (none)) = some (r1, r2, r3) := by rw [if_pos rfl] at H; exact H
        clear H
        have H := H1
        clear H1
        obtain ⟨ji23, hji23⟩ : ∃ j_ : Int, (wrap64 (x6_1 + 1)) = j_ := ⟨_, rfl⟩
        replace H : (if 0 ≤ (ji23) then (if (ji23) < (a0.size : Int) then (if x5_1.length < 140737488355328 then (script_quoted.l0 kj14 a0 (x5_1 ++ [bt a0 (ji23)]) (wrap64 (x6_1 + 2))) else (none)) else (none)) else (none)) = some (r1, r2, r3) := by first | (rw [hji23] at H; exact H) | (simp only [hji23] at H ⊢; exact H)
        have hji23w : (IntKind.i64.wrap (x6_1 + 1)) = ji23 := (i64_w _).trans hji23
        by_cases c24 : 0 ≤ (ji23)
        rotate_left
        ·
         rw [if_neg c24] at H
         exact absurd H (by simp)
        rw [if_pos c24] at H
        have c24b0 : decide (0 ≤ (ji23)) = true := decide_eq_true c24
        clear c24
        by_cases c25 : (ji23) < (a0.size : Int)
        rotate_left
        ·
         rw [if_neg c25] at H
         exact absurd H (by simp)
        rw [if_pos c25] at H
        have c25b0 : decide ((ji23) < (a0.size : Int)) = true := decide_eq_true c25
        clear c25
        by_cases c27 : x5_1.length < 140737488355328
        rotate_left
        ·
         rw [if_neg c27] at H
         exact absurd H (by simp)
        rw [if_pos c27] at H
        have LMc27 := Aside0.mk c27
        clear c27
        obtain ⟨y103, hy103⟩ : ∃ y_ : List Int, y_ = (x5_1 ++ [bt a0 (ji23)]) := ⟨_, rfl⟩
        replace H : (script_quoted.l0 kj14 a0 y103 (wrap64 (x6_1 + 2))) = some (r1, r2, r3) := by first | (rw [hy103]; with_reducible exact H) | (have H2_ := (Option.bind_some _ _).symm.trans H; rw [hy103]; with_reducible exact H2_) | (have H2_ := (Option.bind_some _ _).symm.trans H; with_reducible exact H2_) | with_reducible exact H | (rw [hy103]; exact H) | exact H
        have Ny103 := Aside0.mk hy103
        clear hy103
        have H' := Aside0.mk H
        clear H
        have p26 : 0 ≤ ((ji23) : Int) := of_decide_eq_true (by first | (with_reducible assumption) | assumption)
        have q26 : (ji23) < (a0.size : Int) := of_decide_eq_true (by first | (with_reducible assumption) | assumption)
        have hx26 := bt_at a0 (ji23)
        replace p26 := eq_true p26
        replace q26 := eq_true q26
        go_wp2_with (first | ((with_reducible refine zax (b := .append) (xs := #[.tmp 54, .tmp 59]) rfl ?_); at_builtin; refine Kd.R_append (Kd.int .u8) (w0 := w) w.heap.size rfl (.tmp 54) (.tmp 59) 49 5 (.int .u8 0) 1 rfl Tryd.underlying49 info5 rfl (by decide) (by omega) u5 x5_1 (bt a0 (ji23)) [.int .u8 (bt a0 (ji23))] (fun _ => True) (fun _ => False) rfl rfl ?aP (fun _ hk => hk.elim) ?aF ?aO ?aB ?aS ?aL ?_; (case aP => exact rfl); (case aB => exact (by repeat with_reducible first | exact HB.out | apply zae | apply zac | apply zad)); (case aF => exact (fun _ _ => trivial)); (case aO => exact (by (with_reducible repeat (first | apply Kd.R_alloc | apply Kd.R_drewN | apply Kd.R_drew)); exact HO_5.out)); (case aS => exact (zal (by repeat with_reducible first | exact HB.out | apply zae | apply zac | apply zad))); (case aL => have := LMc27.out; omega); intro v104 w28 ho hb hg hat; rw [← Ny103.out] at ho; have n0_ := Aside0.mk (hb); have n1_ := Aside0.mk (ho); clear HB; clear HO_5; have HB := n0_; have HO105 := n1_; clear n0_ n1_; clear ho hb hg hat))
        repeat (go_quiet (first | ((with_reducible refine zax (b := .append) (xs := #[.tmp 54, .tmp 59]) rfl ?_); at_builtin; refine Kd.R_append (Kd.int .u8) (w0 := w) w.heap.size rfl (.tmp 54) (.tmp 59) 49 5 (.int .u8 0) 1 rfl Tryd.underlying49 info5 rfl (by decide) (by omega) u5 x5_1 (bt a0 (ji23)) [.int .u8 (bt a0 (ji23))] (fun _ => True) (fun _ => False) rfl rfl ?aP (fun _ hk => hk.elim) ?aF ?aO ?aB ?aS ?aL ?_; (case aP => exact rfl); (case aB => exact (by repeat with_reducible first | exact HB.out | apply zae | apply zac | apply zad)); (case aF => exact (fun _ _ => trivial)); (case aO => exact (by (with_reducible repeat (first | apply Kd.R_alloc | apply Kd.R_drewN | apply Kd.R_drew)); exact HO_5.out)); (case aS => exact (zal (by repeat with_reducible first | exact HB.out | apply zae | apply zac | apply zad))); (case aL => have := LMc27.out; omega); intro v104 w28 ho hb hg hat; rw [← Ny103.out] at ho; have n0_ := Aside0.mk (hb); have n1_ := Aside0.mk (ho); clear HB; clear HO_5; have HB := n0_; have HO105 := n1_; clear n0_ n1_; clear ho hb hg hat)); try go_wp2_with (first | ((with_reducible refine zax (b := .append) (xs := #[.tmp 54, .tmp 59]) rfl ?_); at_builtin; refine Kd.R_append (Kd.int .u8) (w0 := w) w.heap.size rfl (.tmp 54) (.tmp 59) 49 5 (.int .u8 0) 1 rfl Tryd.underlying49 info5 rfl (by decide) (by omega) u5 x5_1 (bt a0 (ji23)) [.int .u8 (bt a0 (ji23))] (fun _ => True) (fun _ => False) rfl rfl ?aP (fun _ hk => hk.elim) ?aF ?aO ?aB ?aS ?aL ?_; (case aP => exact rfl); (case aB => exact (by repeat with_reducible first | exact HB.out | apply zae | apply zac | apply zad)); (case aF => exact (fun _ _ => trivial)); (case aO => exact (by (with_reducible repeat (first | apply Kd.R_alloc | apply Kd.R_drewN | apply Kd.R_drew)); exact HO_5.out)); (case aS => exact (zal (by repeat with_reducible first | exact HB.out | apply zae | apply zac | apply zad))); (case aL => have := LMc27.out; omega); intro v104 w28 ho hb hg hat; rw [← Ny103.out] at ho; have n0_ := Aside0.mk (hb); have n1_ := Aside0.mk (ho); clear HB; clear HO_5; have HB := n0_; have HO105 := n1_; clear n0_ n1_; clear ho hb hg hat)))
        go_roundg kj14
        case measure => have := HK1.out; have := HJ10.out; have := HJ14.out; omega
        case rel => exact ⟨(y103), (wrap64 (x6_1 + 2)), (by first | rfl | (simp; done) | (simp [*]; done)), H', ⟨by have := HK1.out; have := HJ10.out; have := HJ14.out; omega⟩, ⟨by (with_reducible repeat (first | apply Kd.R_alloc | apply Kd.R_drewN | apply Kd.R_drew)); exact HO105.out⟩, ⟨by repeat with_reducible first | exact HB.out | apply zae | apply zac | apply zad⟩⟩
       replace c22 := Bool.eq_false_iff.mpr c22
       subst c22
       have H1 : (if (wrap64 (x6_1 + 1)) < (a0.size : Int) then (if 0 ≤ (wrap64 (x6_1 + 1)) then (if (bt a0 (wrap64 (x6_1 + 1))) = 120 then ((script_digit.f a0 (wrap64 (x6_1 + 2))).bind fun t106 => (if t106 ≥ 0 then ((script_digit.f a0 (wrap64 (x6_1 + 3))).bind fun t107 => (script_quoted.j3 kj14 a0 x5_1 x6_1 (decide (t107 ≥ 0)))) else (script_quoted.j3 kj14 a0 x5_1 x6_1 false))) else (script_quoted.j3 kj14 a0 x5_1 x6_1 false)) else (none)) else (script_quoted.j3 kj14 a0 x5_1 x6_1 false)) = some (r1, r2, r3) := by rw [if_neg (show ¬ (false = true) by decide)] at H; exact H
       clear H
       have H := H1
       clear H1
       have HC29 := Aside0.mk H
       clear H
       go_upto_region 15 with (fail)
       repeat (go_quiet (fail); go_upto_region 15 with (fail))
       go_cut [63] (fun v63 wc => ∃ (kq : Nat) (x63_28 : Bool), v63 = .bool x63_28 ∧ Aside0 (script_quoted.j3 kq a0 x5_1 x6_1 x63_28 = some (r1, r2, r3)) ∧ Aside0 (kq ≤ kj14) ∧ Aside0 (Kd.R (Kd.int .u8) 5 wc w.heap.size (fun _ => True) u5 x5_1) ∧ Aside0 (Below w.heap.size w wc))
       case first =>
        have H := HC29.out
        clear HC29
        by_cases c30 : (wrap64 (x6_1 + 1)) < (a0.size : Int)
        rotate_left
        ·
         rw [if_neg c30] at H
         have c30b0 : decide ((wrap64 (x6_1 + 1)) < (a0.size : Int)) = false := decide_eq_false c30
         clear c30
         (first | rw [c30b0] | (simp only [i64_w, i32_w]; rw [c30b0]) | rw [c30b2] | skip)
         have H' := Aside0.mk H
         clear H
         go_wp2
         repeat (go_quiet (fail); try go_wp2)
         go_meet
         case rel => exact ⟨_, (false), (by first | rfl | (simp; done) | (simp [*]; done)), H', ⟨by have := HK1.out; have := HJ10.out; have := HJ14.out; first | omega | exact Nat.le_refl _⟩, ⟨by (with_reducible repeat (first | apply Kd.R_alloc | apply Kd.R_drewN | apply Kd.R_drew)); exact HO_5.out⟩, ⟨by repeat with_reducible first | exact HB.out | apply zae | apply zac | apply zad⟩⟩
        rw [if_pos c30] at H
        have c30b0 : decide ((wrap64 (x6_1 + 1)) < (a0.size : Int)) = true := decide_eq_true c30
        clear c30
        (first | rw [c30b0] | (simp only [i64_w, i32_w]; rw [c30b0]) | rw [c30b2] | skip)
        obtain ⟨ji31, hji31⟩ : ∃ j_ : Int, (wrap64 (x6_1 + 1)) = j_ := ⟨_, rfl⟩
        replace H : (if 0 ≤ (ji31) then (if (bt a0 (ji31)) = 120 then ((script_digit.f a0 (wrap64 (x6_1 + 2))).bind fun t106 => (if t106 ≥ 0 then ((script_digit.f a0 (wrap64 (x6_1 + 3))).bind fun t107 => (script_quoted.j3 kj14 a0 x5_1 x6_1 (decide (t107 ≥ 0)))) else (script_quoted.j3 kj14 a0 x5_1 x6_1 false))) else (script_quoted.j3 kj14 a0 x5_1 x6_1 false)) else (none)) = some (r1, r2, r3) := by first | (rw [hji31] at H; exact H) | (simp only [hji31] at H ⊢; exact H)
        (try rw [hji31] at c30b0)
        have hji31w : (IntKind.i64.wrap (x6_1 + 1)) = ji31 := (i64_w _).trans hji31
        by_cases c32 : 0 ≤ (ji31)
        rotate_left
        ·
         rw [if_neg c32] at H
         exact absurd H (by simp)
        rw [if_pos c32] at H
        have c32b0 : decide (0 ≤ (ji31)) = true := decide_eq_true c32
        clear c32
        by_cases c34 : (bt a0 (ji31)) = 120
        rotate_left
        ·
         rw [if_neg c34] at H
         have c34b0 : ((bt a0 (ji31)) == 120) = false := beq_eq_false_iff_ne.mpr c34
         have c34b1 : ((bt a0 (ji31)) != 120) = true := bne_iff_ne.mpr c34
         have H' := Aside0.mk H
         clear H
         have p33 : 0 ≤ ((ji31) : Int) := of_decide_eq_true (by first | (with_reducible assumption) | assumption)
         have q33 : (ji31) < (a0.size : Int) := of_decide_eq_true (by first | (with_reducible assumption) | assumption)
         have hx33 := bt_at a0 (ji31)
         replace p33 := eq_true p33
         replace q33 := eq_true q33
         go_wp2
         repeat (go_quiet (fail); try go_wp2)
         go_meet
         case rel => exact ⟨_, (false), (by first | rfl | (simp; done) | (simp [*]; done)), H', ⟨by have := HK1.out; have := HJ10.out; have := HJ14.out; first | omega | exact Nat.le_refl _⟩, ⟨by (with_reducible repeat (first | apply Kd.R_alloc | apply Kd.R_drewN | apply Kd.R_drew)); exact HO_5.out⟩, ⟨by repeat with_reducible first | exact HB.out | apply zae | apply zac | apply zad⟩⟩
        rw [if_pos c34] at H
        have c34b0 : ((bt a0 (ji31)) == 120) = true := beq_iff_eq.mpr c34
        have c34b1 : ((bt a0 (ji31)) != 120) = false := bne_eq_false_iff_eq.mpr c34
        clear c34
        replace H := Option.bind_eq_some_iff.mp H
        obtain ⟨t106, A350, H⟩ := H
        replace H : (if t106 ≥ 0 then ((script_digit.f a0 (wrap64 (x6_1 + 3))).bind fun t107 => (script_quoted.j3 kj14 a0 x5_1 x6_1 (decide (t107 ≥ 0)))) else (script_quoted.j3 kj14 a0 x5_1 x6_1 false)) = some (r1, r2, r3) := H
        have A35 := Aside0.mk A350
        clear A350
        by_cases c36 : t106 ≥ 0
        rotate_left
        ·
         rw [if_neg c36] at H
         have c36b0 : decide (0 ≤ t106) = false := decide_eq_false c36
         clear c36
         have H' := Aside0.mk H
         clear H
         have p33 : 0 ≤ ((ji31) : Int) := of_decide_eq_true (by first | (with_reducible assumption) | assumption)
         have q33 : (ji31) < (a0.size : Int) := of_decide_eq_true (by first | (with_reducible assumption) | assumption)
         have hx33 := bt_at a0 (ji31)
         replace p33 := eq_true p33
         replace q33 := eq_true q33
         go_wp2_with (first | (go_at_call 68; (with_reducible refine (script_digit.calls a0 (wrap64 (x6_1 + 2)) t106 _ A35.out).mono ?_); rintro e w' ⟨rfl, ⟨nd, rfl⟩⟩; (try first | exact ⟨rfl, _, World.drewN_drewN _ _ _⟩ | exact ⟨rfl, _, Eq.trans (World.drewN_drewN _ _ _) (congrArg (World.drewN _) (Nat.add_assoc _ _ _))⟩)))
         repeat (go_quiet (first | (go_at_call 68; (with_reducible refine (script_digit.calls a0 (wrap64 (x6_1 + 2)) t106 _ A35.out).mono ?_); rintro e w' ⟨rfl, ⟨nd, rfl⟩⟩; (try first | exact ⟨rfl, _, World.drewN_drewN _ _ _⟩ | exact ⟨rfl, _, Eq.trans (World.drewN_drewN _ _ _) (congrArg (World.drewN _) (Nat.add_assoc _ _ _))⟩))); try go_wp2_with (first | (go_at_call 68; (with_reducible refine (script_digit.calls a0 (wrap64 (x6_1 + 2)) t106 _ A35.out).mono ?_); rintro e w' ⟨rfl, ⟨nd, rfl⟩⟩; (try first | exact ⟨rfl, _, World.drewN_drewN _ _ _⟩ | exact ⟨rfl, _, Eq.trans (World.drewN_drewN _ _ _) (congrArg (World.drewN _) (Nat.add_assoc _ _ _))⟩))))
         go_meet
         case rel => exact ⟨_, (false), (by first | rfl | (simp; done) | (simp [*]; done)), H', ⟨by have := HK1.out; have := HJ10.out; have := HJ14.out; first | omega | exact Nat.le_refl _⟩, ⟨by (with_reducible repeat (first | apply Kd.R_alloc | apply Kd.R_drewN | apply Kd.R_drew)); exact HO_5.out⟩, ⟨by repeat with_reducible first | exact HB.out | apply zae | apply zac | apply zad⟩⟩
        rw [if_pos c36] at H
        have c36b0 : decide (0 ≤ t106) = true := decide_eq_true c36
        clear c36
        replace H := Option.bind_eq_some_iff.mp H
        obtain ⟨t107, A370, H⟩ := H
        replace H : (script_quoted.j3 kj14 a0 x5_1 x6_1 (decide (t107 ≥ 0))) = some (r1, r2, r3) := H
        have A37 := Aside0.mk A370
        clear A370
        have H' := Aside0.mk H
        clear H
        have p33 : 0 ≤ ((ji31) : Int) := of_decide_eq_true (by first | (with_reducible assumption) | assumption)
        have q33 : (ji31) < (a0.size : Int) := of_decide_eq_true (by first | (with_reducible assumption) | assumption)
        have hx33 := bt_at a0 (ji31)
        replace p33 := eq_true p33
        replace q33 := eq_true q33
        go_wp2_with (first | (go_at_call 68; (with_reducible refine (script_digit.calls a0 (wrap64 (x6_1 + 2)) t106 _ A35.out).mono ?_); rintro e w' ⟨rfl, ⟨nd, rfl⟩⟩; (try first | exact ⟨rfl, _, World.drewN_drewN _ _ _⟩ | exact ⟨rfl, _, Eq.trans (World.drewN_drewN _ _ _) (congrArg (World.drewN _) (Nat.add_assoc _ _ _))⟩)) | (go_at_call 68; (with_reducible refine (script_digit.calls a0 (wrap64 (x6_1 + 3)) t107 _ A37.out).mono ?_); rintro e w' ⟨rfl, ⟨nd, rfl⟩⟩; (try first | exact ⟨rfl, _, World.drewN_drewN _ _ _⟩ | exact ⟨rfl, _, Eq.trans (World.drewN_drewN _ _ _) (congrArg (World.drewN _) (Nat.add_assoc _ _ _))⟩)))
        repeat (go_quiet (first | (go_at_call 68; (with_reducible refine (script_digit.calls a0 (wrap64 (x6_1 + 2)) t106 _ A35.out).mono ?_); rintro e w' ⟨rfl, ⟨nd, rfl⟩⟩; (try first | exact ⟨rfl, _, World.drewN_drewN _ _ _⟩ | exact ⟨rfl, _, Eq.trans (World.drewN_drewN _ _ _) (congrArg (World.drewN _) (Nat.add_assoc _ _ _))⟩)) | (go_at_call 68; (with_reducible refine (script_digit.calls a0 (wrap64 (x6_1 + 3)) t107 _ A37.out).mono ?_); rintro e w' ⟨rfl, ⟨nd, rfl⟩⟩; (try first | exact ⟨rfl, _, World.drewN_drewN _ _ _⟩ | exact ⟨rfl, _, Eq.trans (World.drewN_drewN _ _ _) (congrArg (World.drewN _) (Nat.add_assoc _ _ _))⟩))); try go_wp2_with (first | (go_at_call 68; (with_reducible refine (script_digit.calls a0 (wrap64 (x6_1 + 2)) t106 _ A35.out).mono ?_); rintro e w' ⟨rfl, ⟨nd, rfl⟩⟩; (try first | exact ⟨rfl, _, World.drewN_drewN _ _ _⟩ | exact ⟨rfl, _, Eq.trans (World.drewN_drewN _ _ _) (congrArg (World.drewN _) (Nat.add_assoc _ _ _))⟩)) | (go_at_call 68; (with_reducible refine (script_digit.calls a0 (wrap64 (x6_1 + 3)) t107 _ A37.out).mono ?_); rintro e w' ⟨rfl, ⟨nd, rfl⟩⟩; (try first | exact ⟨rfl, _, World.drewN_drewN _ _ _⟩ | exact ⟨rfl, _, Eq.trans (World.drewN_drewN _ _ _) (congrArg (World.drewN _) (Nat.add_assoc _ _ _))⟩))))
        go_meet
        case rel => exact ⟨_, (decide (t107 ≥ 0)), (by first | rfl | (simp; done) | (simp [*]; done)), H', ⟨by have := HK1.out; have := HJ10.out; have := HJ14.out; first | omega | exact Nat.le_refl _⟩, ⟨by (with_reducible repeat (first | apply Kd.R_alloc | apply Kd.R_drewN | apply Kd.R_drew)); exact HO_5.out⟩, ⟨by repeat with_reducible first | exact HB.out | apply zae | apply zac | apply zad⟩⟩
       case rest =>
        clear HC29
        try clear c1
        try clear p1
        try clear q1
        try clear hx1
        try clear hcv1
        try clear c2
        try clear c2b0
        try clear p2
        try clear q2
        try clear hx2
        try clear c3
        try clear c3b0
        try clear p3
        try clear q3
        try clear hx3
        try clear p4
        try clear q4
        try clear hx4
        try clear c5
        try clear c5b0
        try clear c5b1
        try clear c6
        try clear c6b0
        try clear p6
        try clear c8
        try clear c8b0
        try clear c8b1
        try clear c9
        try clear c9b0
        try clear c9b1
        try clear hcv10
        try clear c12
        try clear c12b0
        try clear c12b2
        try clear c13
        try clear c14
        try clear c14b0
        try clear c14b1
        try clear c16
        try clear c16b0
        try clear c16b2
        try clear c18
        try clear c18b0
        try clear p19
        try clear q19
        try clear hx19
        try clear c20
        try clear c20b0
        try clear c20b1
        try clear p21
        try clear q21
        try clear hx21
        try clear c22
        try clear c24
        try clear c24b0
        try clear c25
        try clear c25b0
        try clear p26
        try clear q26
        try clear hx26
        try clear c27
        try clear c30
        try clear c30b0
        try clear c30b2
        try clear c32
        try clear c32b0
        try clear p33
        try clear q33
        try clear hx33
        try clear c34
        try clear c34b0
        try clear c34b1
        try clear c36
        try clear c36b0
        try clear p1
        try clear p19
        try clear p2
        try clear p21
        try clear p26
        try clear p3
        try clear p33
        try clear p4
        try clear p6
        try clear q1
        try clear q19
        try clear q2
        try clear q21
        try clear q26
        try clear q33
        try clear q4
        obtain ⟨kq, x63_28, rfl, HA, HJ28, HO_5, HB⟩ := hcut
        cases kq with
        | zero => exact absurd HA.out (by simp [script_quoted.j3])
        | succ kj28 =>
         have H := HA.out
         clear HA
         simp only [script_quoted.j3] at H
         by_cases c38 : x63_28 = true
         rotate_left
         ·
          replace c38 := Bool.eq_false_iff.mpr c38
          subst c38
          have H1 : (some ((⟨#[]⟩ : ByteArray), (⟨#[]⟩ : ByteArray), false)) = some (r1, r2, r3) := by rw [if_neg (show ¬ (false = true) by decide)] at H; exact H
          clear H
          have H := H1
          clear H1
          simp only [Option.some.injEq, Prod.mk.injEq] at H
          obtain ⟨rfl, rfl, rfl⟩ := H
          go_wp2
          repeat (go_quiet (fail); try go_wp2)
          try rw [Exit.noGoto_ret]
          go_ret3
          exact ⟨by first | rfl | (simp [zam, zan] <;> rfl) | (simp [*, zam, zan] <;> rfl), by repeat with_reducible first | exact HB.out | apply zae | apply zac | apply zad⟩
         subst c38
         have H1 : ((script_digit.f a0 (wrap64 (x6_1 + 2))).bind fun t108 => ((script_digit.f a0 (wrap64 (x6_1 + 3))).bind fun t109 => (if x5_1.length < 140737488355328 then (script_quoted.l0 kj28 a0 (x5_1 ++ [(wrap64 ((wrap64 (16 * t108)) + t109)) % 256]) (wrap64 (x6_1 + 4))) else (none)))) = some (r1, r2, r3) := by rw [if_pos rfl] at H; exact H
         clear H
         have H := H1
         clear H1
         replace H := Option.bind_eq_some_iff.mp H
         obtain ⟨t108, A390, H⟩ := H
         replace H : ((script_digit.f a0 (wrap64 (x6_1 + 3))).bind fun t109 => (if x5_1.length < 140737488355328 then (script_quoted.l0 kj28 a0 (x5_1 ++ [(wrap64 ((wrap64 (16 * t108)) + t109)) % 256]) (wrap64 (x6_1 + 4))) else (none))) = some (r1, r2, r3) := H
         have A39 := Aside0.mk A390
         clear A390
         replace H := Option.bind_eq_some_iff.mp H
         obtain ⟨t109, A400, H⟩ := H
         replace H : (if x5_1.length < 140737488355328 then (script_quoted.l0 kj28 a0 (x5_1 ++ [(wrap64 ((wrap64 (16 * t108)) + t109)) % 256]) (wrap64 (x6_1 + 4))) else (none)) = some (r1, r2, r3) := H
         have A40 := Aside0.mk A400
         clear A400
         by_cases c41 : x5_1.length < 140737488355328
         rotate_left
         ·
          rw [if_neg c41] at H
          exact absurd H (by simp)
         rw [if_pos c41] at H
         have LMc41 := Aside0.mk c41
         clear c41
         obtain ⟨y110, hy110⟩ : ∃ y_ : List Int, y_ = (x5_1 ++ [(wrap64 ((wrap64 (16 * t108)) + t109)) % 256]) := ⟨_, rfl⟩
         replace H : (script_quoted.l0 kj28 a0 y110 (wrap64 (x6_1 + 4))) = some (r1, r2, r3) := by first | (rw [hy110]; with_reducible exact H) | (have H2_ := (Option.bind_some _ _).symm.trans H; rw [hy110]; with_reducible exact H2_) | (have H2_ := (Option.bind_some _ _).symm.trans H; with_reducible exact H2_) | with_reducible exact H | (rw [hy110]; exact H) | exact H
         have Ny110 := Aside0.mk hy110
         clear hy110
         have H' := Aside0.mk H
         clear H
         go_wp2_with (first | (go_at_call 68; (with_reducible refine (script_digit.calls a0 (wrap64 (x6_1 + 2)) t108 _ A39.out).mono ?_); rintro e w' ⟨rfl, ⟨nd, rfl⟩⟩; (try first | exact ⟨rfl, _, World.drewN_drewN _ _ _⟩ | exact ⟨rfl, _, Eq.trans (World.drewN_drewN _ _ _) (congrArg (World.drewN _) (Nat.add_assoc _ _ _))⟩)) | (go_at_call 68; (with_reducible refine (script_digit.calls a0 (wrap64 (x6_1 + 3)) t109 _ A40.out).mono ?_); rintro e w' ⟨rfl, ⟨nd, rfl⟩⟩; (try first | exact ⟨rfl, _, World.drewN_drewN _ _ _⟩ | exact ⟨rfl, _, Eq.trans (World.drewN_drewN _ _ _) (congrArg (World.drewN _) (Nat.add_assoc _ _ _))⟩)) | ((with_reducible refine zax (b := .append) (xs := #[.tmp 90, .tmp 102]) rfl ?_); at_builtin; refine Kd.R_append (Kd.int .u8) (w0 := w) w.heap.size rfl (.tmp 90) (.tmp 102) 49 5 (.int .u8 0) 1 rfl Tryd.underlying49 info5 rfl (by decide) (by omega) u5 x5_1 ((wrap64 ((wrap64 (16 * t108)) + t109)) % 256) [.int .u8 ((wrap64 ((wrap64 (16 * t108)) + t109)) % 256)] (fun _ => True) (fun _ => False) rfl rfl ?aP (fun _ hk => hk.elim) ?aF ?aO ?aB ?aS ?aL ?_; (case aP => exact rfl); (case aB => exact (by repeat with_reducible first | exact HB.out | apply zae | apply zac | apply zad)); (case aF => exact (fun _ _ => trivial)); (case aO => exact (by (with_reducible repeat (first | apply Kd.R_alloc | apply Kd.R_drewN | apply Kd.R_drew)); exact HO_5.out)); (case aS => exact (zal (by repeat with_reducible first | exact HB.out | apply zae | apply zac | apply zad))); (case aL => have := LMc41.out; omega); intro v111 w42 ho hb hg hat; rw [← Ny110.out] at ho; have n0_ := Aside0.mk (hb); have n1_ := Aside0.mk (ho); clear HB; clear HO_5; have HB := n0_; have HO112 := n1_; clear n0_ n1_; clear ho hb hg hat))
         repeat (go_quiet (first | (go_at_call 68; (with_reducible refine (script_digit.calls a0 (wrap64 (x6_1 + 2)) t108 _ A39.out).mono ?_); rintro e w' ⟨rfl, ⟨nd, rfl⟩⟩; (try first | exact ⟨rfl, _, World.drewN_drewN _ _ _⟩ | exact ⟨rfl, _, Eq.trans (World.drewN_drewN _ _ _) (congrArg (World.drewN _) (Nat.add_assoc _ _ _))⟩)) | (go_at_call 68; (with_reducible refine (script_digit.calls a0 (wrap64 (x6_1 + 3)) t109 _ A40.out).mono ?_); rintro e w' ⟨rfl, ⟨nd, rfl⟩⟩; (try first | exact ⟨rfl, _, World.drewN_drewN _ _ _⟩ | exact ⟨rfl, _, Eq.trans (World.drewN_drewN _ _ _) (congrArg (World.drewN _) (Nat.add_assoc _ _ _))⟩)) | ((with_reducible refine zax (b := .append) (xs := #[.tmp 90, .tmp 102]) rfl ?_); at_builtin; refine Kd.R_append (Kd.int .u8) (w0 := w) w.heap.size rfl (.tmp 90) (.tmp 102) 49 5 (.int .u8 0) 1 rfl Tryd.underlying49 info5 rfl (by decide) (by omega) u5 x5_1 ((wrap64 ((wrap64 (16 * t108)) + t109)) % 256) [.int .u8 ((wrap64 ((wrap64 (16 * t108)) + t109)) % 256)] (fun _ => True) (fun _ => False) rfl rfl ?aP (fun _ hk => hk.elim) ?aF ?aO ?aB ?aS ?aL ?_; (case aP => exact rfl); (case aB => exact (by repeat with_reducible first | exact HB.out | apply zae | apply zac | apply zad)); (case aF => exact (fun _ _ => trivial)); (case aO => exact (by (with_reducible repeat (first | apply Kd.R_alloc | apply Kd.R_drewN | apply Kd.R_drew)); exact HO_5.out)); (case aS => exact (zal (by repeat with_reducible first | exact HB.out | apply zae | apply zac | apply zad))); (case aL => have := LMc41.out; omega); intro v111 w42 ho hb hg hat; rw [← Ny110.out] at ho; have n0_ := Aside0.mk (hb); have n1_ := Aside0.mk (ho); clear HB; clear HO_5; have HB := n0_; have HO112 := n1_; clear n0_ n1_; clear ho hb hg hat)); try go_wp2_with (first | (go_at_call 68; (with_reducible refine (script_digit.calls a0 (wrap64 (x6_1 + 2)) t108 _ A39.out).mono ?_); rintro e w' ⟨rfl, ⟨nd, rfl⟩⟩; (try first | exact ⟨rfl, _, World.drewN_drewN _ _ _⟩ | exact ⟨rfl, _, Eq.trans (World.drewN_drewN _ _ _) (congrArg (World.drewN _) (Nat.add_assoc _ _ _))⟩)) | (go_at_call 68; (with_reducible refine (script_digit.calls a0 (wrap64 (x6_1 + 3)) t109 _ A40.out).mono ?_); rintro e w' ⟨rfl, ⟨nd, rfl⟩⟩; (try first | exact ⟨rfl, _, World.drewN_drewN _ _ _⟩ | exact ⟨rfl, _, Eq.trans (World.drewN_drewN _ _ _) (congrArg (World.drewN _) (Nat.add_assoc _ _ _))⟩)) | ((with_reducible refine zax (b := .append) (xs := #[.tmp 90, .tmp 102]) rfl ?_); at_builtin; refine Kd.R_append (Kd.int .u8) (w0 := w) w.heap.size rfl (.tmp 90) (.tmp 102) 49 5 (.int .u8 0) 1 rfl Tryd.underlying49 info5 rfl (by decide) (by omega) u5 x5_1 ((wrap64 ((wrap64 (16 * t108)) + t109)) % 256) [.int .u8 ((wrap64 ((wrap64 (16 * t108)) + t109)) % 256)] (fun _ => True) (fun _ => False) rfl rfl ?aP (fun _ hk => hk.elim) ?aF ?aO ?aB ?aS ?aL ?_; (case aP => exact rfl); (case aB => exact (by repeat with_reducible first | exact HB.out | apply zae | apply zac | apply zad)); (case aF => exact (fun _ _ => trivial)); (case aO => exact (by (with_reducible repeat (first | apply Kd.R_alloc | apply Kd.R_drewN | apply Kd.R_drew)); exact HO_5.out)); (case aS => exact (zal (by repeat with_reducible first | exact HB.out | apply zae | apply zac | apply zad))); (case aL => have := LMc41.out; omega); intro v111 w42 ho hb hg hat; rw [← Ny110.out] at ho; have n0_ := Aside0.mk (hb); have n1_ := Aside0.mk (ho); clear HB; clear HO_5; have HB := n0_; have HO112 := n1_; clear n0_ n1_; clear ho hb hg hat)))
         go_roundg kj28
         case measure => have := HK1.out; have := HJ10.out; have := HJ14.out; have := HJ28.out; omega
         case rel => exact ⟨(y110), (wrap64 (x6_1 + 4)), (by first | rfl | (simp; done) | (simp [*]; done)), H', ⟨by have := HK1.out; have := HJ10.out; have := HJ14.out; have := HJ28.out; omega⟩, ⟨by (with_reducible repeat (first | apply Kd.R_alloc | apply Kd.R_drewN | apply Kd.R_drew)); exact HO112.out⟩, ⟨by repeat with_reducible first | exact HB.out | apply zae | apply zac | apply zad⟩⟩

end Go.Proofs.YtdmlgligljagoaaDoor.PS

namespace Go.Proofs.YtdmlgligljagoaaDoor.PS
open Go.RowKit Go.Proofs.YtdmlgligljagoaaDoorW.PrintWords Go.Proofs.YtdmlgligljagoaaDoorW.PrintLast Go.Proofs.YtdmlgligljagoaaDoorW.PrintMore
attribute [local go_sem] zbg zbh max_two min_two zbe zbf zbi zbj   -- for this text's walks alone
set_option linter.unusedVariables false
set_option linter.unusedSimpArgs false

/-! ### script_words: function 40 -/
mutual
def script_words.l0 : Nat → ByteArray → List (S88) → Option ((List (S88)) × Bool)
 | 0, _, _ => none
 | k + 1, x0, x4 => (strings_HasPrefix.f x0 (⟨#[34]⟩ : ByteArray)).bind fun t116 => (if t116 = true then ((script_quoted.f k x0).bind fun bt118 => (if bt118.2.2 = true then (script_words.j1 k bt118.2.1 x4 bt118.1 t116) else (some (([] : List (S88)), false)))) else (if x0.size + 1 ≤ 9223372036854775807 then ((strings_IndexByte.f (x0 ++ (⟨#[32]⟩ : ByteArray)) 32).bind fun t121 => (if 0 ≤ t121 then (if t121 ≤ (x0.size : Int) then (if (x0.extract 0 (t121 : Int).toNat).toList = ([] : List UInt8) then (some (([] : List (S88)), false)) else (script_words.j1 k (x0.extract (t121 : Int).toNat x0.size) x4 (x0.extract 0 (t121 : Int).toNat) t116)) else (none)) else (none))) else (none)))
def script_words.j1 : Nat → ByteArray → List (S88) → ByteArray → Bool → Option ((List (S88)) × Bool)
 | 0, _, _, _, _ => none
 | k + 1, x0, x4, x118000, x118001 => if x4.length < 5864062014805 then ((some (x4 ++ [(⟨x118000, x118001⟩ : S88)] : List (S88))).bind fun y122 => (if x0.toList = ([] : List UInt8) then (some (y122, true)) else (if 0 < (x0.size : Int) then (if (bt x0 0) = 32 then (if 1 ≤ (x0.size : Int) then (script_words.l0 k (x0.extract 1 x0.size) y122) else (none)) else (some (([] : List (S88)), false))) else (none)))) else (none)
end
def script_words.f (k : Nat) (a0 : ByteArray) : Option ((List (S88)) × Bool) := script_words.l0 k a0 ([] : List (S88))
def script_words.T9 : Bool × List (List Nat × List Nat) := (true, [([], []), ([], []), ([0, 1], [0, 1]), ([], []), ([], []), ([3, 4], [3, 4]), ([0, 1, 2], []), ([6, 2, 0, 1, 2], [2, 6]), ([5, 7, 0, 1, 2, 3, 4, 5, 6, 7], [0, 3, 5])])
def script_words.B9 : List Nat := [0, 0, 3, 0, 0, 24, 7, 71, 255]
theorem script_words.tab9 : rtab .any (opsOf Tryd.f40 9) = script_words.T9 := by kernel_rfl
theorem script_words.bits9 : waitsOk script_words.T9.2 script_words.B9 = true := by kernel_rfl
set_option maxHeartbeats 8000000 in
set_option maxRecDepth 100000 in
theorem script_words.calls (k : Nat) (a0 : ByteArray) (r1 : List (S88)) (r2 : Bool) (w : World) (h : script_words.f k a0 = some (r1, r2)) :
  Calls Tryd.prog 40 #[.string a0] w fun e w' => ∃ v0_ : Value, e = .returned (.tuple #[v0_, .bool r2]) ∧ Kd.R k88 88 w' w.heap.size (fun _ => True) v0_ r1 ∧ Below w.heap.size w w' := by
 have hu88 := Tryd.underlying88
 have HB := Aside0.mk (Below.refl w.heap.size w)
 have H : (script_words.l0 k a0 ([] : List (S88))) = some (r1, r2) := h
 clear h
 have H' := Aside0.mk H
 clear H
 go_enter Tryd.func40, Tryd.ntmps40
 go_wp2
 go_loopg [0, 4] k (fun kq v0 v4 w' => ∃ (x0_1 : ByteArray) (x4_1 : List (S88)), v0 = .string x0_1 ∧ Aside0 (script_words.l0 kq x0_1 x4_1 = some (r1, r2)) ∧ Aside0 (kq ≤ k) ∧ Aside0 (Kd.R k88 88 w' w.heap.size (fun _ => True) v4 x4_1) ∧ Aside0 (Below w.heap.size w w'))
 case atStart => exact ⟨(a0), (([] : List (S88))), (by first | rfl | (simp; done) | (simp [*]; done)), H', ⟨Nat.le_refl _⟩, ⟨by first | exact Kd.R_nil _ _ _ _ _ | exact Kd.N_nil _ _ _ _ _ | exact Kd.V_nil _ _ _ _ _ | exact Kd.Q_nil _ _ _ _ _ | exact Kd.S_nil _ _ _ _ _⟩, ⟨by repeat with_reducible first | exact HB.out | apply zae | apply zac | apply zad⟩⟩
 case round =>
  clear H'
  obtain ⟨x0_1, x4_1, rfl, HA, HK1, HO_4, HB⟩ := hrel
  cases gk with
  | zero => exact absurd HA.out (by simp [script_words.l0])
  | succ k1 =>
   have H := HA.out
   clear HA
   simp only [script_words.l0] at H
   replace H := Option.bind_eq_some_iff.mp H
   obtain ⟨t116, A20, H⟩ := H
   replace H : (if t116 = true then ((script_quoted.f k1 x0_1).bind fun bt118 => (if bt118.2.2 = true then (script_words.j1 k1 bt118.2.1 x4_1 bt118.1 t116) else (some (([] : List (S88)), false)))) else (if x0_1.size + 1 ≤ 9223372036854775807 then ((strings_IndexByte.f (x0_1 ++ (⟨#[32]⟩ : ByteArray)) 32).bind fun t121 => (if 0 ≤ t121 then (if t121 ≤ (x0_1.size : Int) then (if (x0_1.extract 0 (t121 : Int).toNat).toList = ([] : List UInt8) then (some (([] : List (S88)), false)) else (script_words.j1 k1 (x0_1.extract (t121 : Int).toNat x0_1.size) x4_1 (x0_1.extract 0 (t121 : Int).toNat) t116)) else (none)) else (none))) else (none))) = some (r1, r2) := H
   have A2 := Aside0.mk A20
   clear A20
   have HC3 := Aside0.mk H
   clear H
   go_upto_if 12 with (first | ((with_reducible refine zay (f := 53) rfl ?_); refine goesL_ (some 9) rfl rfl Tryd.func53 (by kernel_rfl) rfl #[.string x0_1, .string (⟨#[34]⟩ : ByteArray)] rfl (by (try simp only [List.map_toArray, List.map_cons, List.map_nil]); first | done | rfl | (simp only [List.length_drop, List.length_take]; rfl)) ?_; (with_reducible refine (strings_HasPrefix.calls x0_1 (⟨#[34]⟩ : ByteArray) t116 _ A2.out).mono ?_); rintro e w' ⟨rfl, ⟨nd, rfl⟩⟩; refine ⟨_, rfl, ?_⟩; (try (rw [drewN_self wr]; generalize hq_ : World.drewN wr _ = wr; have n0_ : Aside0 (Kd.R k88 88 wr w.heap.size (fun _ => True) u4 x4_1) := ⟨by rw [← hq_]; exact (by (with_reducible repeat (first | apply Kd.R_alloc | apply Kd.R_drewN | apply Kd.R_drew)); exact HO_4.out)⟩; have n1_ : Aside0 (Below w.heap.size w wr) := ⟨by rw [← hq_]; exact (by repeat with_reducible first | exact HB.out | apply zae | apply zac | apply zad)⟩; clear HO_4 HB hq_; have HO_4 := n0_; have HB := n1_; clear n0_ n1_))) | ((with_reducible refine zbm (N := 5) rfl ?_); refine zbn ?hg (N := 5) ?hd (cs := #[.string (⟨#[]⟩ : ByteArray), .bool false]) (t := 88) ?hr ?_; (case hd => rfl); (case hg => rfl); (case hr => first | (go_simp; done) | (go_simp; rfl)); intro gb117 hg w4 hbox hb; have n0_ := Aside0.mk (Kd.R_below (Kd.R_elderB (by (with_reducible repeat (first | apply Kd.R_alloc | apply Kd.R_drewN | apply Kd.R_drew)); exact HO_4.out) gb117 (Nat.le_of_eq hg.symm)) hb); have n1_ := Aside0.mk (zap (by repeat with_reducible first | exact HB.out | apply zae | apply zac | apply zad) hb); have n2_ := Aside0.mk (hbox); have n3_ := Aside0.mk ((by rw [hg]; exact (zal (by repeat with_reducible first | exact HB.out | apply zae | apply zac | apply zad)) : w.heap.size ≤ gb117)); have n4_ := Aside0.mk ((by rw [hg]; exact (zal (by repeat with_reducible first | exact HB.out | apply zae | apply zac | apply zad)) : w.heap.size ≤ gb117)); clear HO_4; clear HB; have HO_4 := n0_; have HB := n1_; have BK117 := n2_; have GW117 := n3_; have GE117 := n4_; clear n0_ n1_ n2_ n3_ n4_; clear hb hbox hg; have hcz5_0 : w4.cell? ⟨gb117, 0, none⟩ = some (.string (⟨#[]⟩ : ByteArray)) := (zaa BK117.out 0).trans rfl; have hcz5_1 : w4.cell? ⟨gb117, 1, none⟩ = some (.bool false) := (zaa BK117.out 1).trans rfl; have hfz5_0 := zab BK117.out 0; have hfz5_1 := zab BK117.out 1))
   (try simp only [Act.put, List.setIfInBounds_toArray, List.set_cons_zero, List.set_cons_succ])
   go_cut [0] (fun v0 wc => ∃ (kq : Nat) (x0_2 : ByteArray) (x118000_2 : ByteArray), v0 = .string x0_2 ∧ Aside0 (script_words.j1 kq x0_2 x4_1 x118000_2 t116 = some (r1, r2)) ∧ Aside0 (kq ≤ k1) ∧ Aside0 (Kd.R k88 88 wc w.heap.size (fun k_ => k_ ≠ gb117) u4 x4_1) ∧ Aside0 (wc.heap[gb117]? = some (.cells #[.string x118000_2, .bool t116] 88 (0, 0))) ∧ Aside0 (Below w.heap.size w wc))
   case first =>
    have H := HC3.out
    clear HC3
    by_cases c6 : t116 = true
    ·
     subst c6
     have H1 : ((script_quoted.f k1 x0_1).bind fun bt118 => (if bt118.2.2 = true then (script_words.j1 k1 bt118.2.1 x4_1 bt118.1 true) else (some (([] : List (S88)), false)))) = some (r1, r2) := by rw [if_pos rfl] at H; exact H
     clear H
     have H := H1
     clear H1
     replace H := Option.bind_eq_some_iff.mp H
     obtain ⟨⟨t118, t119, t120⟩, A70, H⟩ := H
     replace H : (if t120 = true then (script_words.j1 k1 t119 x4_1 t118 true) else (some (([] : List (S88)), false))) = some (r1, r2) := H
     have A7 := Aside0.mk A70
     clear A70
     by_cases c8 : t120 = true
     ·
      subst c8
      have H1 : (script_words.j1 k1 t119 x4_1 t118 true) = some (r1, r2) := by rw [if_pos rfl] at H; exact H
      clear H
      have H := H1
      clear H1
      have H' := Aside0.mk H
      clear H
      go_wp2_with (first | ((with_reducible refine zay (f := 54) rfl ?_); refine goesL_ (some 15) rfl rfl Tryd.func54 (by kernel_rfl) rfl #[.string x0_1] rfl (by (try simp only [List.map_toArray, List.map_cons, List.map_nil]); first | done | rfl | (simp only [List.length_drop, List.length_take]; rfl)) ?_; (with_reducible refine (script_quoted.calls k1 x0_1 t118 t119 true _ A7.out).mono ?_); rintro e w9 ⟨rfl, hb⟩; refine ⟨_, rfl, ?_⟩; have n0_ := Aside0.mk (Kd.R_below (by (with_reducible repeat (first | apply Kd.R_alloc | apply Kd.R_drewN | apply Kd.R_drew)); exact (Kd.R_mono (Kd.R_far (p := ⟨gb117, 1, none⟩) (Kd.R_far (p := ⟨gb117, 0, none⟩) (Kd.R_mono HO_4.out (fun k_ hk => (⟨hk, hk.2⟩ : _ ∧ k_ ≠ gb117))) (fun _ hk => hk.2) (.string (⟨#[]⟩ : ByteArray))) (fun _ hk => hk.2) (.bool true)) (fun _ h_ => h_.1))) hb); have n1_ := Aside0.mk (zaz (g := gb117) (o := .cells #[.string (⟨#[]⟩ : ByteArray), .bool true] 88 (0, 0)) (by (with_reducible repeat (first | refine zai ?_ _ | refine zaj ?_ | refine zag ?_ _)); refine zar (cs := #[.string (⟨#[]⟩ : ByteArray), .bool false]) ?_ 1 _ rfl; (with_reducible repeat (first | refine zai ?_ _ | refine zaj ?_ | refine zag ?_ _)); refine zar (cs := #[.string (⟨#[]⟩ : ByteArray), .bool false]) ?_ 0 _ rfl; (with_reducible repeat (first | refine zai ?_ _ | refine zaj ?_ | refine zag ?_ _)); exact BK117.out) hb); have n2_ := Aside0.mk (zap (by repeat with_reducible first | exact HB.out | apply zae | apply zac | apply zad | refine zah ?_ GE117.out) hb); clear HO_4; clear BK117; clear HB; have HO_4 := n0_; have BK117 := n1_; have HB := n2_; clear n0_ n1_ n2_; (try clear hb); (try clear hb2); (try clear hk); (try clear hi); have hcz10_0 : w9.cell? ⟨gb117, 0, none⟩ = some (.string (⟨#[]⟩ : ByteArray)) := (zaa BK117.out 0).trans rfl; have hcz10_1 : w9.cell? ⟨gb117, 1, none⟩ = some (.bool true) := (zaa BK117.out 1).trans rfl; have hfz10_0 := zab BK117.out 0; have hfz10_1 := zab BK117.out 1))
      go_meet
      case rel => exact ⟨_, (t119), (t118), (by first | rfl | (simp; done) | (simp [*]; done)), H', ⟨by have := HK1.out; first | omega | exact Nat.le_refl _⟩, ⟨by (with_reducible repeat (first | apply Kd.R_alloc | apply Kd.R_drewN | apply Kd.R_drew)); exact Kd.R_mono (Kd.R_far (p := ⟨gb117, 0, none⟩) (Kd.R_mono HO_4.out (fun k_ hk => (⟨hk, hk.2⟩ : _ ∧ k_ ≠ gb117))) (fun _ hk => hk.2) (.string t118)) (fun _ hk => hk.1.2)⟩, ⟨by (with_reducible repeat (first | refine zai ?_ _ | refine zaj ?_ | refine zag ?_ _)); refine zar (cs := #[.string (⟨#[]⟩ : ByteArray), .bool true]) ?_ 0 _ rfl; (with_reducible repeat (first | refine zai ?_ _ | refine zaj ?_ | refine zag ?_ _)); exact BK117.out⟩, ⟨by repeat with_reducible first | exact HB.out | apply zae | apply zac | apply zad | refine zah ?_ GE117.out⟩⟩
     replace c8 := Bool.eq_false_iff.mpr c8
     subst c8
     have H1 : (some (([] : List (S88)), false)) = some (r1, r2) := by rw [if_neg (show ¬ (false = true) by decide)] at H; exact H
     clear H
     have H := H1
     clear H1
     simp only [Option.some.injEq, Prod.mk.injEq] at H
     obtain ⟨rfl, rfl⟩ := H
     go_wp2_with (first | ((with_reducible refine zay (f := 54) rfl ?_); refine goesL_ (some 15) rfl rfl Tryd.func54 (by kernel_rfl) rfl #[.string x0_1] rfl (by (try simp only [List.map_toArray, List.map_cons, List.map_nil]); first | done | rfl | (simp only [List.length_drop, List.length_take]; rfl)) ?_; (with_reducible refine (script_quoted.calls k1 x0_1 t118 t119 false _ A7.out).mono ?_); rintro e w11 ⟨rfl, hb⟩; refine ⟨_, rfl, ?_⟩; have n0_ := Aside0.mk (Kd.R_below (by (with_reducible repeat (first | apply Kd.R_alloc | apply Kd.R_drewN | apply Kd.R_drew)); exact (Kd.R_mono (Kd.R_far (p := ⟨gb117, 1, none⟩) (Kd.R_far (p := ⟨gb117, 0, none⟩) (Kd.R_mono HO_4.out (fun k_ hk => (⟨hk, hk.2⟩ : _ ∧ k_ ≠ gb117))) (fun _ hk => hk.2) (.string (⟨#[]⟩ : ByteArray))) (fun _ hk => hk.2) (.bool true)) (fun _ h_ => h_.1))) hb); have n1_ := Aside0.mk (zaz (g := gb117) (o := .cells #[.string (⟨#[]⟩ : ByteArray), .bool true] 88 (0, 0)) (by (with_reducible repeat (first | refine zai ?_ _ | refine zaj ?_ | refine zag ?_ _)); refine zar (cs := #[.string (⟨#[]⟩ : ByteArray), .bool false]) ?_ 1 _ rfl; (with_reducible repeat (first | refine zai ?_ _ | refine zaj ?_ | refine zag ?_ _)); refine zar (cs := #[.string (⟨#[]⟩ : ByteArray), .bool false]) ?_ 0 _ rfl; (with_reducible repeat (first | refine zai ?_ _ | refine zaj ?_ | refine zag ?_ _)); exact BK117.out) hb); have n2_ := Aside0.mk (zap (by repeat with_reducible first | exact HB.out | apply zae | apply zac | apply zad | refine zah ?_ GE117.out) hb); clear HO_4; clear BK117; clear HB; have HO_4 := n0_; have BK117 := n1_; have HB := n2_; clear n0_ n1_ n2_; (try clear hb); (try clear hb2); (try clear hk); (try clear hi); have hcz12_0 : w11.cell? ⟨gb117, 0, none⟩ = some (.string (⟨#[]⟩ : ByteArray)) := (zaa BK117.out 0).trans rfl; have hcz12_1 : w11.cell? ⟨gb117, 1, none⟩ = some (.bool true) := (zaa BK117.out 1).trans rfl; have hfz12_0 := zab BK117.out 0; have hfz12_1 := zab BK117.out 1))
     go_ret2
     exact ⟨_, by first | rfl | (simp [zam, zan] <;> rfl) | (simp [*, zam, zan] <;> rfl), by first | exact Kd.R_nil _ _ _ _ _ | exact Kd.N_nil _ _ _ _ _ | exact Kd.V_nil _ _ _ _ _ | exact Kd.Q_nil _ _ _ _ _ | exact Kd.S_nil _ _ _ _ _, by repeat with_reducible first | exact HB.out | apply zae | apply zac | apply zad | refine zah ?_ GE117.out⟩
    replace c6 := Bool.eq_false_iff.mpr c6
    subst c6
    have H1 : (if x0_1.size + 1 ≤ 9223372036854775807 then ((strings_IndexByte.f (x0_1 ++ (⟨#[32]⟩ : ByteArray)) 32).bind fun t121 => (if 0 ≤ t121 then (if t121 ≤ (x0_1.size : Int) then (if (x0_1.extract 0 (t121 : Int).toNat).toList = ([] : List UInt8) then (some (([] : List (S88)), false)) else (script_words.j1 k1 (x0_1.extract (t121 : Int).toNat x0_1.size) x4_1 (x0_1.extract 0 (t121 : Int).toNat) false)) else (none)) else (none))) else (none)) = some (r1, r2) := by rw [if_neg (show ¬ (false = true) by decide)] at H; exact H
    clear H
    have H := H1
    clear H1
    by_cases c13 : x0_1.size + 1 ≤ 9223372036854775807
    rotate_left
    ·
     rw [if_neg c13] at H
     exact absurd H (by simp)
    rw [if_pos c13] at H
    have c13b0 := eq_true c13
    have c13b1 : decide (x0_1.size + 1 ≤ 9223372036854775807) = true := decide_eq_true c13
    try have c13b2 : (9223372036854775807 < x0_1.size + 1) = False := eq_false (Nat.not_lt.2 c13)
    replace H := Option.bind_eq_some_iff.mp H
    obtain ⟨t121, A140, H⟩ := H
    replace H : (if 0 ≤ t121 then (if t121 ≤ (x0_1.size : Int) then (if (x0_1.extract 0 (t121 : Int).toNat).toList = ([] : List UInt8) then (some (([] : List (S88)), false)) else (script_words.j1 k1 (x0_1.extract (t121 : Int).toNat x0_1.size) x4_1 (x0_1.extract 0 (t121 : Int).toNat) false)) else (none)) else (none)) = some (r1, r2) := H
    have A14 := Aside0.mk A140
    clear A140
    by_cases c15 : 0 ≤ t121
    rotate_left
    ·
     rw [if_neg c15] at H
     exact absurd H (by simp)
    rw [if_pos c15] at H
    have c15b0 := eq_true c15
    have c15b1 : decide (0 ≤ t121) = true := decide_eq_true c15
    clear c15
    by_cases c16 : t121 ≤ (x0_1.size : Int)
    rotate_left
    ·
     rw [if_neg c16] at H
     exact absurd H (by simp)
    rw [if_pos c16] at H
    have c16b0 := eq_true c16
    have c16b1 : decide (t121 ≤ (x0_1.size : Int)) = true := decide_eq_true c16
    clear c16
    have c17b0 := eq_true (of_decide_eq_true (by first | (with_reducible assumption) | assumption) : 0 ≤ t121)
    have c18b0 := eq_true (of_decide_eq_true (by first | (with_reducible assumption) | assumption) : t121 ≤ (x0_1.size : Int))
    by_cases c19 : (x0_1.extract 0 (t121 : Int).toNat).toList = ([] : List UInt8)
    ·
     rw [if_pos c19] at H
     have c19b0 : ((x0_1.extract 0 (t121 : Int).toNat).toList == ([] : List UInt8)) = true := beq_iff_eq.mpr c19
     have c19b1 : ((x0_1.extract 0 (t121 : Int).toNat).toList != ([] : List UInt8)) = false := bne_eq_false_iff_eq.mpr c19
     (try (have c19b2 : (x0_1.extract 0 (t121 : Int).toNat).toList.isEmpty = true := by simpa using c19))
     clear c19
     (first | rw [c19b0] | (simp only [i64_w, i32_w]; rw [c19b0]) | rw [c19b2] | skip)
     simp only [Option.some.injEq, Prod.mk.injEq] at H
     obtain ⟨rfl, rfl⟩ := H
     try go_wp2_with (first | ((with_reducible refine zay (f := 55) rfl ?_); refine goesL_ (some 24) rfl rfl Tryd.func55 (by kernel_rfl) rfl #[.string (x0_1 ++ (⟨#[32]⟩ : ByteArray)), .int .u8 32] rfl (by (try simp only [List.map_toArray, List.map_cons, List.map_nil]); first | done | rfl | (simp only [List.length_drop, List.length_take]; rfl)) ?_; (with_reducible refine (strings_IndexByte.calls (x0_1 ++ (⟨#[32]⟩ : ByteArray)) 32 t121 _ A14.out).mono ?_); rintro e w' ⟨rfl, ⟨nd, rfl⟩⟩; refine ⟨_, rfl, ?_⟩))
     have n0_ : Aside0 (Kd.R k88 88 ((w4.setCell ⟨gb117, 0, none⟩ (.string (⟨#[]⟩ : ByteArray))).setCell ⟨gb117, 1, none⟩ (.bool false)) w.heap.size (fun k_ => k_ ≠ gb117) u4 x4_1) := ⟨by (with_reducible repeat (first | apply Kd.R_alloc | apply Kd.R_drewN | apply Kd.R_drew)); exact Kd.R_mono (Kd.R_far (p := ⟨gb117, 1, none⟩) (Kd.R_far (p := ⟨gb117, 0, none⟩) (Kd.R_mono HO_4.out (fun k_ hk => (⟨hk, hk.2⟩ : _ ∧ k_ ≠ gb117))) (fun _ hk => hk.2) (.string (⟨#[]⟩ : ByteArray))) (fun _ hk => hk.2) (.bool false)) (fun _ hk => hk.1.2)⟩
     have n1_ : Aside0 (((w4.setCell ⟨gb117, 0, none⟩ (.string (⟨#[]⟩ : ByteArray))).setCell ⟨gb117, 1, none⟩ (.bool false)).heap[gb117]? = some (.cells #[.string (⟨#[]⟩ : ByteArray), .bool false] 88 (0, 0))) := ⟨by (with_reducible repeat (first | refine zai ?_ _ | refine zaj ?_ | refine zag ?_ _)); refine zar (cs := #[.string (⟨#[]⟩ : ByteArray), .bool false]) ?_ 1 _ rfl; (with_reducible repeat (first | refine zai ?_ _ | refine zaj ?_ | refine zag ?_ _)); refine zar (cs := #[.string (⟨#[]⟩ : ByteArray), .bool false]) ?_ 0 _ rfl; (with_reducible repeat (first | refine zai ?_ _ | refine zaj ?_ | refine zag ?_ _)); exact BK117.out⟩
     have n2_ : Aside0 (Below w.heap.size w ((w4.setCell ⟨gb117, 0, none⟩ (.string (⟨#[]⟩ : ByteArray))).setCell ⟨gb117, 1, none⟩ (.bool false))) := ⟨by repeat with_reducible first | exact HB.out | apply zae | apply zac | apply zad | refine zah ?_ GE117.out⟩
     (try clear HO_4)
     (try clear BK117)
     (try clear HB)
     generalize ((w4.setCell ⟨gb117, 0, none⟩ (.string (⟨#[]⟩ : ByteArray))).setCell ⟨gb117, 1, none⟩ (.bool false)) = w20 at n0_ n1_ n2_ ⊢
     have HO_4 := n0_
     have BK117 := n1_
     have HB := n2_
     clear n0_ n1_ n2_
     (try (rw [drewN_self w20]; generalize hq_ : World.drewN w20 _ = w20; have n0_ : Aside0 (Kd.R k88 88 w20 w.heap.size (fun k_ => k_ ≠ gb117) u4 x4_1) := ⟨by rw [← hq_]; exact (by (with_reducible repeat (first | apply Kd.R_alloc | apply Kd.R_drewN | apply Kd.R_drew)); exact HO_4.out)⟩; have n1_ : Aside0 (w20.heap[gb117]? = some (.cells #[.string (⟨#[]⟩ : ByteArray), .bool false] 88 (0, 0))) := ⟨by rw [← hq_]; exact (by (with_reducible repeat (first | refine zai ?_ _ | refine zaj ?_ | refine zag ?_ _)); exact BK117.out)⟩; have n2_ : Aside0 (Below w.heap.size w w20) := ⟨by rw [← hq_]; exact (by repeat with_reducible first | exact HB.out | apply zae | apply zac | apply zad | refine zah ?_ GE117.out)⟩; clear HO_4 BK117 HB hq_; have HO_4 := n0_; have BK117 := n1_; have HB := n2_; clear n0_ n1_ n2_))
     have n0_ := Aside0.mk (Kd.R_drew HO_4.out)
     have n1_ := Aside0.mk (zaj BK117.out)
     have n2_ := Aside0.mk (zad HB.out)
     clear HO_4
     clear BK117
     clear HB
     have HO_4 := n0_
     have BK117 := n1_
     have HB := n2_
     clear n0_ n1_ n2_
     refine start_ (n := 9) (S := fun w' => True) (ds := []) #[false, false, false, false, false, false, false, false, false] (by kernel_rfl) rfl rfl trivial (fun hHeld => ?_); refine zbp script_words.tab9 script_words.bits9 (fun HT_ HW_ => ?_)
     generalize w20.drew = w21 at HO_4 BK117 HB hHeld ⊢
     refine pure_ (i := 0) (N := some 25) (v := ?_) (a' := ?_) (tm 9 1) rfl rfl (zak HT_.out (by kernel_rfl)) (fun _ _ _ h => h) (Or.inl ⟨by rfl, ?_⟩) ?_ ?_
     rotate_left
     ·
      intro w'
      go_simp
      with_reducible rfl
     rotate_left
     ·
      simp only [aw]
      rfl
     refine pure_ (i := 1) (N := some 26) (v := ?_) (a' := ?_) (tm 9 3) rfl rfl (zak HT_.out (by kernel_rfl)) (fun _ _ _ h => h) (Or.inl ⟨by rfl, ?_⟩) ?_ ?_
     rotate_left
     ·
      intro w'
      go_simp
      with_reducible rfl
     rotate_left
     ·
      simp only [aw]
      rfl
     refine pure_ (i := 2) (N := some 27) (v := ?_) (a' := ?_) (tm 9 7) rfl rfl (zak HT_.out (by kernel_rfl)) (fun _ _ _ h => h) (Or.inl ⟨by rfl, ?_⟩) ?_ ?_
     rotate_left
     ·
      intro w'
      go_simp
      with_reducible rfl
     rotate_left
     ·
      simp only [aw]
      rfl
     refine pure_ (i := 3) (N := some 28) (v := ?_) (a' := ?_) (tm 9 15) rfl rfl (zak HT_.out (by kernel_rfl)) (fun _ _ _ h => h) (Or.inl ⟨by rfl, ?_⟩) ?_ ?_
     rotate_left
     ·
      intro w'
      go_simp
      with_reducible rfl
     rotate_left
     ·
      simp only [aw]
      rfl
     refine pure_ (i := 4) (N := some 29) (v := ?_) (a' := ?_) (tm 9 31) rfl rfl (zak HT_.out (by kernel_rfl)) (fun _ _ _ h => h) (Or.inl ⟨by rfl, ?_⟩) ?_ ?_
     rotate_left
     ·
      intro w'
      go_simp
      with_reducible rfl
     rotate_left
     ·
      simp only [aw]
      rfl
     refine pure_ (i := 5) (N := some 30) (v := ?_) (a' := ?_) (tm 9 63) rfl rfl (zak HT_.out (by kernel_rfl)) (fun _ _ _ h => h) (Or.inl ⟨by rfl, ?_⟩) ?_ ?_
     rotate_left
     ·
      intro w'
      go_simp
      with_reducible rfl
     rotate_left
     ·
      simp only [aw]
      rfl
     refine pure_ (i := 6) (N := some 31) (v := ?_) (a' := ?_) (tm 9 127) rfl rfl (zak HT_.out (by kernel_rfl)) (fun _ _ _ h => h) (Or.inl ⟨by rfl, ?_⟩) ?_ ?_
     rotate_left
     ·
      intro w'
      go_simp
      with_reducible rfl
     rotate_left
     ·
      simp only [aw]
      rfl
     refine one_ (i := 7) (N := none) (tm 9 255) rfl rfl (one_of HT_.out (by kernel_rfl)) (by decide) (fun K hK => ?_)
     have hs22 : w21.cell? ⟨gb117, 0, none⟩ = some (.string (⟨#[]⟩ : ByteArray)) := (zaa BK117.out 0).trans rfl
     have hfs22 := zab BK117.out 0
     refine skip_ (w1 := ?_) (by rfl) rfl ?_ ?_
     rotate_left
     ·
      go_simp
      rfl
     refine hK.out _ _ trivial (fun hHeld => ?_)
     clear hK K
     refine pure_ (i := 8) (N := some 0) (v := ?_) (a' := ?_) (tm 9 511) rfl rfl (zak HT_.out (by kernel_rfl)) (fun _ _ _ h => h) (Or.inl ⟨by rfl, ?_⟩) ?_ ?_
     rotate_left
     ·
      intro w'
      go_simp
      with_reducible rfl
     rotate_left
     ·
      simp only [aw]
      rfl
     refine done_ (done_of HT_.out (by kernel_rfl)) ?_
     have hcz23_0 : w21.cell? ⟨gb117, 0, none⟩ = some (.string (⟨#[]⟩ : ByteArray)) := (zaa BK117.out 0).trans rfl
     have hcz23_1 : w21.cell? ⟨gb117, 1, none⟩ = some (.bool false) := (zaa BK117.out 1).trans rfl
     have hfz23_0 := zab BK117.out 0
     have hfz23_1 := zab BK117.out 1
     try go_wp2
     go_ret2
     exact ⟨_, by first | rfl | (simp [zam, zan] <;> rfl) | (simp [*, zam, zan] <;> rfl), by first | exact Kd.R_nil _ _ _ _ _ | exact Kd.N_nil _ _ _ _ _ | exact Kd.V_nil _ _ _ _ _ | exact Kd.Q_nil _ _ _ _ _ | exact Kd.S_nil _ _ _ _ _, by repeat with_reducible first | exact HB.out | apply zae | apply zac | apply zad | refine zah ?_ GE117.out⟩
    rw [if_neg c19] at H
    have c19b0 : ((x0_1.extract 0 (t121 : Int).toNat).toList == ([] : List UInt8)) = false := beq_eq_false_iff_ne.mpr c19
    have c19b1 : ((x0_1.extract 0 (t121 : Int).toNat).toList != ([] : List UInt8)) = true := bne_iff_ne.mpr c19
    (try (have c19b2 : (x0_1.extract 0 (t121 : Int).toNat).toList.isEmpty = false := by simpa using c19))
    (first | rw [c19b0] | (simp only [i64_w, i32_w]; rw [c19b0]) | rw [c19b2] | skip)
    have H' := Aside0.mk H
    clear H
    try go_wp2_with (first | ((with_reducible refine zay (f := 55) rfl ?_); refine goesL_ (some 24) rfl rfl Tryd.func55 (by kernel_rfl) rfl #[.string (x0_1 ++ (⟨#[32]⟩ : ByteArray)), .int .u8 32] rfl (by (try simp only [List.map_toArray, List.map_cons, List.map_nil]); first | done | rfl | (simp only [List.length_drop, List.length_take]; rfl)) ?_; (with_reducible refine (strings_IndexByte.calls (x0_1 ++ (⟨#[32]⟩ : ByteArray)) 32 t121 _ A14.out).mono ?_); rintro e w' ⟨rfl, ⟨nd, rfl⟩⟩; refine ⟨_, rfl, ?_⟩))
    have n0_ : Aside0 (Kd.R k88 88 ((w4.setCell ⟨gb117, 0, none⟩ (.string (⟨#[]⟩ : ByteArray))).setCell ⟨gb117, 1, none⟩ (.bool false)) w.heap.size (fun k_ => k_ ≠ gb117) u4 x4_1) := ⟨by (with_reducible repeat (first | apply Kd.R_alloc | apply Kd.R_drewN | apply Kd.R_drew)); exact Kd.R_mono (Kd.R_far (p := ⟨gb117, 1, none⟩) (Kd.R_far (p := ⟨gb117, 0, none⟩) (Kd.R_mono HO_4.out (fun k_ hk => (⟨hk, hk.2⟩ : _ ∧ k_ ≠ gb117))) (fun _ hk => hk.2) (.string (⟨#[]⟩ : ByteArray))) (fun _ hk => hk.2) (.bool false)) (fun _ hk => hk.1.2)⟩
    have n1_ : Aside0 (((w4.setCell ⟨gb117, 0, none⟩ (.string (⟨#[]⟩ : ByteArray))).setCell ⟨gb117, 1, none⟩ (.bool false)).heap[gb117]? = some (.cells #[.string (⟨#[]⟩ : ByteArray), .bool false] 88 (0, 0))) := ⟨by (with_reducible repeat (first | refine zai ?_ _ | refine zaj ?_ | refine zag ?_ _)); refine zar (cs := #[.string (⟨#[]⟩ : ByteArray), .bool false]) ?_ 1 _ rfl; (with_reducible repeat (first | refine zai ?_ _ | refine zaj ?_ | refine zag ?_ _)); refine zar (cs := #[.string (⟨#[]⟩ : ByteArray), .bool false]) ?_ 0 _ rfl; (with_reducible repeat (first | refine zai ?_ _ | refine zaj ?_ | refine zag ?_ _)); exact BK117.out⟩
    have n2_ : Aside0 (Below w.heap.size w ((w4.setCell ⟨gb117, 0, none⟩ (.string (⟨#[]⟩ : ByteArray))).setCell ⟨gb117, 1, none⟩ (.bool false))) := ⟨by repeat with_reducible first | exact HB.out | apply zae | apply zac | apply zad | refine zah ?_ GE117.out⟩
    (try clear HO_4)
    (try clear BK117)
    (try clear HB)
    generalize ((w4.setCell ⟨gb117, 0, none⟩ (.string (⟨#[]⟩ : ByteArray))).setCell ⟨gb117, 1, none⟩ (.bool false)) = w24 at n0_ n1_ n2_ ⊢
    have HO_4 := n0_
    have BK117 := n1_
    have HB := n2_
    clear n0_ n1_ n2_
    (try (rw [drewN_self w24]; generalize hq_ : World.drewN w24 _ = w24; have n0_ : Aside0 (Kd.R k88 88 w24 w.heap.size (fun k_ => k_ ≠ gb117) u4 x4_1) := ⟨by rw [← hq_]; exact (by (with_reducible repeat (first | apply Kd.R_alloc | apply Kd.R_drewN | apply Kd.R_drew)); exact HO_4.out)⟩; have n1_ : Aside0 (w24.heap[gb117]? = some (.cells #[.string (⟨#[]⟩ : ByteArray), .bool false] 88 (0, 0))) := ⟨by rw [← hq_]; exact (by (with_reducible repeat (first | refine zai ?_ _ | refine zaj ?_ | refine zag ?_ _)); exact BK117.out)⟩; have n2_ : Aside0 (Below w.heap.size w w24) := ⟨by rw [← hq_]; exact (by repeat with_reducible first | exact HB.out | apply zae | apply zac | apply zad | refine zah ?_ GE117.out)⟩; clear HO_4 BK117 HB hq_; have HO_4 := n0_; have BK117 := n1_; have HB := n2_; clear n0_ n1_ n2_))
    have n0_ := Aside0.mk (Kd.R_drew HO_4.out)
    have n1_ := Aside0.mk (zaj BK117.out)
    have n2_ := Aside0.mk (zad HB.out)
    clear HO_4
    clear BK117
    clear HB
    have HO_4 := n0_
    have BK117 := n1_
    have HB := n2_
    clear n0_ n1_ n2_
    refine start_ (n := 9) (S := fun w' => True) (ds := []) #[false, false, false, false, false, false, false, false, false] (by kernel_rfl) rfl rfl trivial (fun hHeld => ?_); refine zbp script_words.tab9 script_words.bits9 (fun HT_ HW_ => ?_)
    generalize w24.drew = w25 at HO_4 BK117 HB hHeld ⊢
    refine pure_ (i := 0) (N := some 25) (v := ?_) (a' := ?_) (tm 9 1) rfl rfl (zak HT_.out (by kernel_rfl)) (fun _ _ _ h => h) (Or.inl ⟨by rfl, ?_⟩) ?_ ?_
    rotate_left
    ·
     intro w'
     go_simp
     with_reducible rfl
    rotate_left
    ·
     simp only [aw]
     rfl
    refine pure_ (i := 1) (N := some 26) (v := ?_) (a' := ?_) (tm 9 3) rfl rfl (zak HT_.out (by kernel_rfl)) (fun _ _ _ h => h) (Or.inl ⟨by rfl, ?_⟩) ?_ ?_
    rotate_left
    ·
     intro w'
     go_simp
     with_reducible rfl
    rotate_left
    ·
     simp only [aw]
     rfl
    refine pure_ (i := 2) (N := some 27) (v := ?_) (a' := ?_) (tm 9 7) rfl rfl (zak HT_.out (by kernel_rfl)) (fun _ _ _ h => h) (Or.inl ⟨by rfl, ?_⟩) ?_ ?_
    rotate_left
    ·
     intro w'
     go_simp
     with_reducible rfl
    rotate_left
    ·
     simp only [aw]
     rfl
    refine pure_ (i := 3) (N := some 28) (v := ?_) (a' := ?_) (tm 9 15) rfl rfl (zak HT_.out (by kernel_rfl)) (fun _ _ _ h => h) (Or.inl ⟨by rfl, ?_⟩) ?_ ?_
    rotate_left
    ·
     intro w'
     go_simp
     with_reducible rfl
    rotate_left
    ·
     simp only [aw]
     rfl
    refine pure_ (i := 4) (N := some 29) (v := ?_) (a' := ?_) (tm 9 31) rfl rfl (zak HT_.out (by kernel_rfl)) (fun _ _ _ h => h) (Or.inl ⟨by rfl, ?_⟩) ?_ ?_
    rotate_left
    ·
     intro w'
     go_simp
     with_reducible rfl
    rotate_left
    ·
     simp only [aw]
     rfl
    refine pure_ (i := 5) (N := some 30) (v := ?_) (a' := ?_) (tm 9 63) rfl rfl (zak HT_.out (by kernel_rfl)) (fun _ _ _ h => h) (Or.inl ⟨by rfl, ?_⟩) ?_ ?_
    rotate_left
    ·
     intro w'
     go_simp
     with_reducible rfl
    rotate_left
    ·
     simp only [aw]
     rfl
    refine pure_ (i := 6) (N := some 31) (v := ?_) (a' := ?_) (tm 9 127) rfl rfl (zak HT_.out (by kernel_rfl)) (fun _ _ _ h => h) (Or.inl ⟨by rfl, ?_⟩) ?_ ?_
    rotate_left
    ·
     intro w'
     go_simp
     with_reducible rfl
    rotate_left
    ·
     simp only [aw]
     rfl
    refine one_ (i := 7) (N := none) (tm 9 255) rfl rfl (one_of HT_.out (by kernel_rfl)) (by decide) (fun K hK => ?_)
    have hs26 : w25.cell? ⟨gb117, 0, none⟩ = some (.string (⟨#[]⟩ : ByteArray)) := (zaa BK117.out 0).trans rfl
    have hfs26 := zab BK117.out 0
    refine skip_ (w1 := ?_) (by rfl) rfl ?_ ?_
    rotate_left
    ·
     go_simp
     rfl
    refine hK.out _ _ trivial (fun hHeld => ?_)
    clear hK K
    refine pure_ (i := 8) (N := some 0) (v := ?_) (a' := ?_) (tm 9 511) rfl rfl (zak HT_.out (by kernel_rfl)) (fun _ _ _ h => h) (Or.inl ⟨by rfl, ?_⟩) ?_ ?_
    rotate_left
    ·
     intro w'
     go_simp
     with_reducible rfl
    rotate_left
    ·
     simp only [aw]
     rfl
    refine done_ (done_of HT_.out (by kernel_rfl)) ?_
    have hcz27_0 : w25.cell? ⟨gb117, 0, none⟩ = some (.string (⟨#[]⟩ : ByteArray)) := (zaa BK117.out 0).trans rfl
    have hcz27_1 : w25.cell? ⟨gb117, 1, none⟩ = some (.bool false) := (zaa BK117.out 1).trans rfl
    have hfz27_0 := zab BK117.out 0
    have hfz27_1 := zab BK117.out 1
    try go_wp2
    go_meet
    case rel => exact ⟨_, (x0_1.extract (t121 : Int).toNat x0_1.size), (x0_1.extract 0 (t121 : Int).toNat), (by first | rfl | (simp; done) | (simp [*]; done)), H', ⟨by have := HK1.out; first | omega | exact Nat.le_refl _⟩, ⟨by (with_reducible repeat (first | apply Kd.R_alloc | apply Kd.R_drewN | apply Kd.R_drew)); exact Kd.R_mono (Kd.R_far (p := ⟨gb117, 0, none⟩) (Kd.R_mono HO_4.out (fun k_ hk => (⟨hk, hk⟩ : _ ∧ k_ ≠ gb117))) (fun _ hk => hk.2) (.string (x0_1.extract 0 (t121 : Int).toNat))) (fun _ hk => hk.1)⟩, ⟨by (with_reducible repeat (first | refine zai ?_ _ | refine zaj ?_ | refine zag ?_ _)); refine zar (cs := #[.string (⟨#[]⟩ : ByteArray), .bool false]) ?_ 0 _ rfl; (with_reducible repeat (first | refine zai ?_ _ | refine zaj ?_ | refine zag ?_ _)); exact BK117.out⟩, ⟨by repeat with_reducible first | exact HB.out | apply zae | apply zac | apply zad | refine zah ?_ GE117.out⟩⟩
   case rest =>
    clear HC3
    try clear c1
    try clear p2
    try clear c4
    try clear c5
    try clear c6
    try clear c8
    try clear c13
    try clear c13b0
    try clear c13b1
    try clear c13b2
    try clear c15
    try clear c15b0
    try clear c15b1
    try clear c16
    try clear c16b0
    try clear c16b1
    try clear c17
    try clear c17b0
    try clear c18
    try clear c18b0
    try clear c19
    try clear c19b0
    try clear c19b1
    try clear c19b2
    try clear hcz10_0
    try clear hcz10_1
    try clear hcz12_0
    try clear hcz12_1
    try clear hcz23_0
    try clear hcz23_1
    try clear hcz27_0
    try clear hcz27_1
    try clear hcz5_0
    try clear hcz5_1
    try clear hfz10_0
    try clear hfz10_1
    try clear hfz12_0
    try clear hfz12_1
    try clear hfz23_0
    try clear hfz23_1
    try clear hfz27_0
    try clear hfz27_1
    try clear hfz5_0
    try clear hfz5_1
    obtain ⟨kq, x0_2, x118000_2, rfl, HA, HJ2, HO_4, BK117, HB⟩ := hcut
    cases kq with
    | zero => exact absurd HA.out (by simp [script_words.j1])
    | succ kj2 =>
     have H := HA.out
     clear HA
     simp only [script_words.j1] at H
     by_cases c28 : x4_1.length < 5864062014805
     rotate_left
     ·
      rw [if_neg c28] at H
      exact absurd H (by simp)
     rw [if_pos c28] at H
     have LMc28 := Aside0.mk c28
     clear c28
     obtain ⟨y122, hy122⟩ : ∃ y_ : List (S88), y_ = (x4_1 ++ [(⟨x118000_2, t116⟩ : S88)]) := ⟨_, rfl⟩
     replace H : (if x0_2.toList = ([] : List UInt8) then (some (y122, true)) else (if 0 < (x0_2.size : Int) then (if (bt x0_2 0) = 32 then (if 1 ≤ (x0_2.size : Int) then (script_words.l0 kj2 (x0_2.extract 1 x0_2.size) y122) else (none)) else (some (([] : List (S88)), false))) else (none))) = some (r1, r2) := by first | (rw [hy122]; with_reducible exact H) | (have H2_ := (Option.bind_some _ _).symm.trans H; rw [hy122]; with_reducible exact H2_) | (have H2_ := (Option.bind_some _ _).symm.trans H; with_reducible exact H2_) | with_reducible exact H | (rw [hy122]; exact H) | exact H
     have Ny122 := Aside0.mk hy122
     clear hy122
     by_cases c29 : x0_2.toList = ([] : List UInt8)
     ·
      rw [if_pos c29] at H
      have c29b0 : (x0_2.toList == ([] : List UInt8)) = true := beq_iff_eq.mpr c29
      have c29b1 : (x0_2.toList != ([] : List UInt8)) = false := bne_eq_false_iff_eq.mpr c29
      (try (have c29b2 : x0_2.toList.isEmpty = true := by simpa using c29))
      clear c29
      simp only [Option.some.injEq, Prod.mk.injEq] at H
      obtain ⟨rfl, rfl⟩ := H
      have hcz30_0 : wc.cell? ⟨gb117, 0, none⟩ = some (.string x118000_2) := (zaa BK117.out 0).trans rfl
      have hcz30_1 : wc.cell? ⟨gb117, 1, none⟩ = some (.bool t116) := (zaa BK117.out 1).trans rfl
      have hfz30_0 := zab BK117.out 0
      have hfz30_1 := zab BK117.out 1
      go_wp2_with (first | ((with_reducible refine zax (b := .append) (xs := #[.tmp 35, .tmp 37]) rfl ?_); at_builtin; refine Kd.R_append k88 (w0 := w) w.heap.size rfl (.tmp 35) (.tmp 37) 84 88 (.agg #[(.string ⟨#[]⟩), (.bool false)]) 24 rfl Tryd.underlying84 info88 rfl (by decide) (by omega) u4 x4_1 (⟨x118000_2, t116⟩ : S88) [.string x118000_2, .bool t116] (fun k_ => k_ ≠ gb117) (fun _ => False) rfl rfl ?aP (fun _ hk => hk.elim) ?aF ?aO ?aB ?aS ?aL ?_; (case aP => exact k88_mkM _ _ _ (⟨x118000_2, t116⟩ : S88)); (case aB => exact (by repeat with_reducible first | exact HB.out | apply zae | apply zac | apply zad | refine zah ?_ GE117.out)); (case aF => exact (fun k_ hk => Kd.freshB (g := gb117) (o := .cells #[.string x118000_2, .bool t116] 88 (0, 0)) (by (with_reducible repeat (first | refine zai ?_ _ | refine zaj ?_ | refine zag ?_ _)); exact BK117.out) k_ hk)); (case aO => exact (by (with_reducible repeat (first | apply Kd.R_alloc | apply Kd.R_drewN | apply Kd.R_drew)); exact HO_4.out)); (case aS => exact (zal (by repeat with_reducible first | exact HB.out | apply zae | apply zac | apply zad | refine zah ?_ GE117.out))); (case aL => have := LMc28.out; omega); intro v123 w31 ho hb hg hat; rw [← Ny122.out] at ho; have n0_ := Aside0.mk (zbk (g := gb117) (o := .cells #[.string x118000_2, .bool t116] 88 (0, 0)) (by (with_reducible repeat (first | refine zai ?_ _ | refine zaj ?_ | refine zag ?_ _)); exact BK117.out) hg (Kd.R_away HO_4.out (fun _ hk => hk))); have n1_ := Aside0.mk (hb); have n2_ := Aside0.mk (ho); clear BK117; clear HB; clear HO_4; have BK117 := n0_; have HB := n1_; have HO124 := n2_; clear n0_ n1_ n2_; clear ho hb hg hat))
      go_ret2
      exact ⟨_, by first | rfl | (simp [zam, zan] <;> rfl) | (simp [*, zam, zan] <;> rfl), by (with_reducible repeat (first | apply Kd.R_alloc | apply Kd.R_drewN | apply Kd.R_drew)); exact Kd.R_mono HO124.out (fun _ hk => trivial), by repeat with_reducible first | exact HB.out | apply zae | apply zac | apply zad | refine zah ?_ GE117.out⟩
     rw [if_neg c29] at H
     have c29b0 : (x0_2.toList == ([] : List UInt8)) = false := beq_eq_false_iff_ne.mpr c29
     have c29b1 : (x0_2.toList != ([] : List UInt8)) = true := bne_iff_ne.mpr c29
     (try (have c29b2 : x0_2.toList.isEmpty = false := by simpa using c29))
     by_cases c32 : 0 < (x0_2.size : Int)
     rotate_left
     ·
      rw [if_neg c32] at H
      exact absurd H (by simp)
     rw [if_pos c32] at H
     have c32b0 : decide (0 < (x0_2.size : Int)) = true := decide_eq_true c32
     have c32b1 : decide (0 < x0_2.size) = true := decide_eq_true (by omega)
     clear c32
     by_cases c34 : (bt x0_2 0) = 32
     rotate_left
     ·
      rw [if_neg c34] at H
      have c34b0 : ((bt x0_2 0) == 32) = false := beq_eq_false_iff_ne.mpr c34
      have c34b1 : ((bt x0_2 0) != 32) = true := bne_iff_ne.mpr c34
      simp only [Option.some.injEq, Prod.mk.injEq] at H
      obtain ⟨rfl, rfl⟩ := H
      have hcz38_0 : wc.cell? ⟨gb117, 0, none⟩ = some (.string x118000_2) := (zaa BK117.out 0).trans rfl
      have hcz38_1 : wc.cell? ⟨gb117, 1, none⟩ = some (.bool t116) := (zaa BK117.out 1).trans rfl
      have hfz38_0 := zab BK117.out 0
      have hfz38_1 := zab BK117.out 1
      go_wp2_with (first | ((with_reducible refine zax (b := .append) (xs := #[.tmp 35, .tmp 37]) rfl ?_); at_builtin; refine Kd.R_append k88 (w0 := w) w.heap.size rfl (.tmp 35) (.tmp 37) 84 88 (.agg #[(.string ⟨#[]⟩), (.bool false)]) 24 rfl Tryd.underlying84 info88 rfl (by decide) (by omega) u4 x4_1 (⟨x118000_2, t116⟩ : S88) [.string x118000_2, .bool t116] (fun k_ => k_ ≠ gb117) (fun _ => False) rfl rfl ?aP (fun _ hk => hk.elim) ?aF ?aO ?aB ?aS ?aL ?_; (case aP => exact k88_mkM _ _ _ (⟨x118000_2, t116⟩ : S88)); (case aB => exact (by repeat with_reducible first | exact HB.out | apply zae | apply zac | apply zad | refine zah ?_ GE117.out)); (case aF => exact (fun k_ hk => Kd.freshB (g := gb117) (o := .cells #[.string x118000_2, .bool t116] 88 (0, 0)) (by (with_reducible repeat (first | refine zai ?_ _ | refine zaj ?_ | refine zag ?_ _)); exact BK117.out) k_ hk)); (case aO => exact (by (with_reducible repeat (first | apply Kd.R_alloc | apply Kd.R_drewN | apply Kd.R_drew)); exact HO_4.out)); (case aS => exact (zal (by repeat with_reducible first | exact HB.out | apply zae | apply zac | apply zad | refine zah ?_ GE117.out))); (case aL => have := LMc28.out; omega); intro v123 w39 ho hb hg hat; rw [← Ny122.out] at ho; have n0_ := Aside0.mk (zbk (g := gb117) (o := .cells #[.string x118000_2, .bool t116] 88 (0, 0)) (by (with_reducible repeat (first | refine zai ?_ _ | refine zaj ?_ | refine zag ?_ _)); exact BK117.out) hg (Kd.R_away HO_4.out (fun _ hk => hk))); have n1_ := Aside0.mk (hb); have n2_ := Aside0.mk (ho); clear BK117; clear HB; clear HO_4; have BK117 := n0_; have HB := n1_; have HO124 := n2_; clear n0_ n1_ n2_; clear ho hb hg hat; have p33 : 0 ≤ (0 : Int) := (by omega); have q33 : 0 < x0_2.size := (by have : (0 : Int) < (x0_2.size : Int) := of_decide_eq_true (by first | (with_reducible assumption) | assumption); omega); have hx33 : ∀ h : 0 < x0_2.size, ((x0_2[0]'h).toNat : Int) = bt x0_2 0 := bt_at x0_2 0; clear p33; have qi33 : (0 < (x0_2.size : Int)) = True := eq_true (of_decide_eq_true (by first | (with_reducible assumption) | assumption)); replace q33 := eq_true q33))
      go_ret2
      exact ⟨_, by first | rfl | (simp [zam, zan] <;> rfl) | (simp [*, zam, zan] <;> rfl), by first | exact Kd.R_nil _ _ _ _ _ | exact Kd.N_nil _ _ _ _ _ | exact Kd.V_nil _ _ _ _ _ | exact Kd.Q_nil _ _ _ _ _ | exact Kd.S_nil _ _ _ _ _, by repeat with_reducible first | exact HB.out | apply zae | apply zac | apply zad | refine zah ?_ GE117.out⟩
     rw [if_pos c34] at H
     have c34b0 : ((bt x0_2 0) == 32) = true := beq_iff_eq.mpr c34
     have c34b1 : ((bt x0_2 0) != 32) = false := bne_eq_false_iff_eq.mpr c34
     clear c34
     by_cases c35 : 1 ≤ (x0_2.size : Int)
     rotate_left
     ·
      rw [if_neg c35] at H
      exact absurd H (by simp)
     rw [if_pos c35] at H
     have c35b0 := eq_true c35
     have c35b1 : decide (1 ≤ (x0_2.size : Int)) = true := decide_eq_true c35
     clear c35
     have H' := Aside0.mk H
     clear H
     have hcz36_0 : wc.cell? ⟨gb117, 0, none⟩ = some (.string x118000_2) := (zaa BK117.out 0).trans rfl
     have hcz36_1 : wc.cell? ⟨gb117, 1, none⟩ = some (.bool t116) := (zaa BK117.out 1).trans rfl
     have hfz36_0 := zab BK117.out 0
     have hfz36_1 := zab BK117.out 1
     go_wp2_with (first | ((with_reducible refine zax (b := .append) (xs := #[.tmp 35, .tmp 37]) rfl ?_); at_builtin; refine Kd.R_append k88 (w0 := w) w.heap.size rfl (.tmp 35) (.tmp 37) 84 88 (.agg #[(.string ⟨#[]⟩), (.bool false)]) 24 rfl Tryd.underlying84 info88 rfl (by decide) (by omega) u4 x4_1 (⟨x118000_2, t116⟩ : S88) [.string x118000_2, .bool t116] (fun k_ => k_ ≠ gb117) (fun _ => False) rfl rfl ?aP (fun _ hk => hk.elim) ?aF ?aO ?aB ?aS ?aL ?_; (case aP => exact k88_mkM _ _ _ (⟨x118000_2, t116⟩ : S88)); (case aB => exact (by repeat with_reducible first | exact HB.out | apply zae | apply zac | apply zad | refine zah ?_ GE117.out)); (case aF => exact (fun k_ hk => Kd.freshB (g := gb117) (o := .cells #[.string x118000_2, .bool t116] 88 (0, 0)) (by (with_reducible repeat (first | refine zai ?_ _ | refine zaj ?_ | refine zag ?_ _)); exact BK117.out) k_ hk)); (case aO => exact (by (with_reducible repeat (first | apply Kd.R_alloc | apply Kd.R_drewN | apply Kd.R_drew)); exact HO_4.out)); (case aS => exact (zal (by repeat with_reducible first | exact HB.out | apply zae | apply zac | apply zad | refine zah ?_ GE117.out))); (case aL => have := LMc28.out; omega); intro v123 w37 ho hb hg hat; rw [← Ny122.out] at ho; have n0_ := Aside0.mk (zbk (g := gb117) (o := .cells #[.string x118000_2, .bool t116] 88 (0, 0)) (by (with_reducible repeat (first | refine zai ?_ _ | refine zaj ?_ | refine zag ?_ _)); exact BK117.out) hg (Kd.R_away HO_4.out (fun _ hk => hk))); have n1_ := Aside0.mk (hb); have n2_ := Aside0.mk (ho); clear BK117; clear HB; clear HO_4; have BK117 := n0_; have HB := n1_; have HO124 := n2_; clear n0_ n1_ n2_; clear ho hb hg hat; have p33 : 0 ≤ (0 : Int) := (by omega); have q33 : 0 < x0_2.size := (by have : (0 : Int) < (x0_2.size : Int) := of_decide_eq_true (by first | (with_reducible assumption) | assumption); omega); have hx33 : ∀ h : 0 < x0_2.size, ((x0_2[0]'h).toNat : Int) = bt x0_2 0 := bt_at x0_2 0; clear p33; have qi33 : (0 < (x0_2.size : Int)) = True := eq_true (of_decide_eq_true (by first | (with_reducible assumption) | assumption)); replace q33 := eq_true q33))
     go_roundg kj2
     case measure => have := HK1.out; have := HJ2.out; omega
     case rel => exact ⟨(x0_2.extract 1 x0_2.size), (y122), (by first | rfl | (simp; done) | (simp [*]; done)), H', ⟨by have := HK1.out; have := HJ2.out; omega⟩, ⟨by (with_reducible repeat (first | apply Kd.R_alloc | apply Kd.R_drewN | apply Kd.R_drew)); exact Kd.R_mono HO124.out (fun _ hk => trivial)⟩, ⟨by repeat with_reducible first | exact HB.out | apply zae | apply zac | apply zad | refine zah ?_ GE117.out⟩⟩

end Go.Proofs.YtdmlgligljagoaaDoor.PS

namespace Go.Proofs.YtdmlgligljagoaaDoor.PS
open Go.RowKit Go.Proofs.YtdmlgligljagoaaDoorW.PrintWords Go.Proofs.YtdmlgligljagoaaDoorW.PrintLast Go.Proofs.YtdmlgligljagoaaDoorW.PrintMore
attribute [local go_sem] zbg zbh max_two min_two zbe zbf zbi zbj   -- for this text's walks alone
set_option linter.unusedVariables false
set_option linter.unusedSimpArgs false

/-! ### stringslite_TrimPrefix: function 82 -/
def stringslite_TrimPrefix.f (a0 : ByteArray) (a1 : ByteArray) : Option (ByteArray) := (stringslite_HasPrefix.f a0 a1).bind fun t125 => (if t125 = true then (if 0 ≤ (a1.size : Int) then (if (a1.size : Int) ≤ (a0.size : Int) then (some (a0.extract ((a1.size : Int) : Int).toNat a0.size)) else (none)) else (none)) else (some a0))
set_option maxHeartbeats 8000000 in
set_option maxRecDepth 100000 in
theorem stringslite_TrimPrefix.calls (a0 : ByteArray) (a1 : ByteArray) (r : ByteArray) (w : World) (h : stringslite_TrimPrefix.f a0 a1 = some r) :
  Calls Tryd.prog 82 #[.string a0, .string a1] w fun e w' => e = .returned (.string r) ∧ Drawn0 w w' := by
 have H : ((stringslite_HasPrefix.f a0 a1).bind fun t125 => (if t125 = true then (if 0 ≤ (a1.size : Int) then (if (a1.size : Int) ≤ (a0.size : Int) then (some (a0.extract ((a1.size : Int) : Int).toNat a0.size)) else (none)) else (none)) else (some a0))) = some r := h
 clear h
 replace H := Option.bind_eq_some_iff.mp H
 obtain ⟨t125, A30, H⟩ := H
 replace H : (if t125 = true then (if 0 ≤ (a1.size : Int) then (if (a1.size : Int) ≤ (a0.size : Int) then (some (a0.extract ((a1.size : Int) : Int).toNat a0.size)) else (none)) else (none)) else (some a0)) = some r := H
 have A3 := Aside0.mk A30
 clear A30
 by_cases c4 : t125 = true
 rotate_left
 ·
  replace c4 := Bool.eq_false_iff.mpr c4
  subst c4
  have H1 : (some a0) = some r := by rw [if_neg (show ¬ (false = true) by decide)] at H; exact H
  clear H
  have H := H1
  clear H1
  obtain rfl := Option.some.inj H
  go_enter Tryd.func82, Tryd.ntmps82
  go_wp2_with (first | ((with_reducible refine zay (f := 67) rfl ?_); refine goesL_ (some 7) rfl rfl Tryd.func67 (by kernel_rfl) rfl #[.string a0, .string a1] rfl (by (try simp only [List.map_toArray, List.map_cons, List.map_nil]); first | done | rfl | (simp only [List.length_drop, List.length_take]; rfl)) ?_; (with_reducible refine (stringslite_HasPrefix.calls a0 a1 false _ A3.out).mono ?_); rintro e w' ⟨rfl, ⟨nd, rfl⟩⟩; refine ⟨_, rfl, ?_⟩))
  go_ret
  exact ⟨by first | rfl | (simp; done) | (simp [*]; done), by repeat (first | exact Drawn0.refl _ | apply Drawn0.step)⟩
 subst c4
 have H1 : (if 0 ≤ (a1.size : Int) then (if (a1.size : Int) ≤ (a0.size : Int) then (some (a0.extract ((a1.size : Int) : Int).toNat a0.size)) else (none)) else (none)) = some r := by rw [if_pos rfl] at H; exact H
 clear H
 have H := H1
 clear H1
 by_cases c5 : 0 ≤ (a1.size : Int)
 rotate_left
 ·
  rw [if_neg c5] at H
  exact absurd H (by simp)
 rw [if_pos c5] at H
 have c5b0 := eq_true c5
 have c5b1 : decide (0 ≤ (a1.size : Int)) = true := decide_eq_true c5
 clear c5
 by_cases c6 : (a1.size : Int) ≤ (a0.size : Int)
 rotate_left
 ·
  rw [if_neg c6] at H
  exact absurd H (by simp)
 rw [if_pos c6] at H
 have c6b0 := eq_true c6
 have c6b1 : decide ((a1.size : Int) ≤ (a0.size : Int)) = true := decide_eq_true c6
 clear c6
 obtain rfl := Option.some.inj H
 go_enter Tryd.func82, Tryd.ntmps82
 go_wp2_with (first | ((with_reducible refine zay (f := 67) rfl ?_); refine goesL_ (some 7) rfl rfl Tryd.func67 (by kernel_rfl) rfl #[.string a0, .string a1] rfl (by (try simp only [List.map_toArray, List.map_cons, List.map_nil]); first | done | rfl | (simp only [List.length_drop, List.length_take]; rfl)) ?_; (with_reducible refine (stringslite_HasPrefix.calls a0 a1 true _ A3.out).mono ?_); rintro e w' ⟨rfl, ⟨nd, rfl⟩⟩; refine ⟨_, rfl, ?_⟩))
 go_ret
 exact ⟨by first | rfl | (simp; done) | (simp [*]; done), by repeat (first | exact Drawn0.refl _ | apply Drawn0.step)⟩

end Go.Proofs.YtdmlgligljagoaaDoor.PS

namespace Go.Proofs.YtdmlgligljagoaaDoor.PS
open Go.RowKit Go.Proofs.YtdmlgligljagoaaDoorW.PrintWords Go.Proofs.YtdmlgligljagoaaDoorW.PrintLast Go.Proofs.YtdmlgligljagoaaDoorW.PrintMore
attribute [local go_sem] zbg zbh max_two min_two zbe zbf zbi zbj   -- for this text's walks alone
set_option linter.unusedVariables false
set_option linter.unusedSimpArgs false

/-! ### strings_TrimPrefix: function 70 -/
def strings_TrimPrefix.f (a0 : ByteArray) (a1 : ByteArray) : Option (ByteArray) := (stringslite_TrimPrefix.f a0 a1).bind fun t126 => (some t126)
set_option maxHeartbeats 8000000 in
set_option maxRecDepth 100000 in
theorem strings_TrimPrefix.calls (a0 : ByteArray) (a1 : ByteArray) (r : ByteArray) (w : World) (h : strings_TrimPrefix.f a0 a1 = some r) :
  Calls Tryd.prog 70 #[.string a0, .string a1] w fun e w' => e = .returned (.string r) ∧ Drawn0 w w' := by
 have H : ((stringslite_TrimPrefix.f a0 a1).bind fun t126 => (some t126)) = some r := h
 clear h
 replace H := Option.bind_eq_some_iff.mp H
 obtain ⟨t126, A30, H⟩ := H
 replace H : (some t126) = some r := H
 have A3 := Aside0.mk A30
 clear A30
 obtain rfl := Option.some.inj H
 go_enter Tryd.func70, Tryd.ntmps70
 go_wp2_with (first | ((with_reducible refine zay (f := 82) rfl ?_); refine goesL_ (some 7) rfl rfl Tryd.func82 (by kernel_rfl) rfl #[.string a0, .string a1] rfl (by (try simp only [List.map_toArray, List.map_cons, List.map_nil]); first | done | rfl | (simp only [List.length_drop, List.length_take]; rfl)) ?_; (with_reducible refine (stringslite_TrimPrefix.calls a0 a1 t126 _ A3.out).mono ?_); rintro e w' ⟨rfl, ⟨nd, rfl⟩⟩; refine ⟨_, rfl, ?_⟩))
 go_ret
 exact ⟨by first | rfl | (simp; done) | (simp [*]; done), by repeat (first | exact Drawn0.refl _ | apply Drawn0.step)⟩

end Go.Proofs.YtdmlgligljagoaaDoor.PS

namespace Go.Proofs.YtdmlgligljagoaaDoor.PS
open Go.RowKit Go.Proofs.YtdmlgligljagoaaDoorW.PrintWords Go.Proofs.YtdmlgligljagoaaDoorW.PrintLast Go.Proofs.YtdmlgligljagoaaDoorW.PrintMore
attribute [local go_sem] zbg zbh max_two min_two zbe zbf zbi zbj   -- for this text's walks alone
set_option linter.unusedVariables false
set_option linter.unusedSimpArgs false

/-! ### script_number: function 56 -/
def script_number.l0 : Nat → ByteArray → Int → Int → Int → ByteArray → Bool → Option (Int × Bool)
 | 0, _, _, _, _, _, _ => none
 | k + 1, x4, x5, x11, x12, x128000, x128001 => if x12 < x11 then (if 0 ≤ x12 then (if x12 < (x4.size : Int) then (if (bt x4 x12) < 48 then (some (0, false)) else (if (bt x4 x12) > 57 then (some (0, false)) else (if x12 > 18 then (some (0, false)) else (script_number.l0 k x4 (wrap64 ((wrap64 (10 * x5)) - (((bt x4 x12) - 48) % 256))) x11 (wrap64 (x12 + 1)) x128000 x128001)))) else (none)) else (none)) else (if (x4.size : Int) = (x128000.size : Int) then (if x128001 = true then (some (wrap64 (-x5), false)) else ((strconv_FormatInt.f (wrap64 (-x5)) 10).bind fun t129 => (some (wrap64 (-x5), (t129.toList == x128000.toList))))) else (if x128001 = true then (some (x5, false)) else ((strconv_FormatInt.f x5 10).bind fun t130 => (some (x5, (t130.toList == x128000.toList))))))
def script_number.f (k : Nat) (a0_0 : ByteArray) (a0_1 : Bool) : Option (Int × Bool) := (strings_TrimPrefix.f a0_0 (⟨#[45]⟩ : ByteArray)).bind fun t128 => (script_number.l0 k t128 0 (t128.size : Int) 0 a0_0 a0_1)
def script_number.T12 : Bool × List (List Nat × List Nat) := (true, [([], []), ([], []), ([1], [1]), ([2], [2]), ([3], [3]), ([4], [4]), ([5, 4, 4], [4, 5]), ([4], [4]), ([7, 4], [4, 7]), ([6, 8, 4], [4, 6, 8]), ([4, 9], [4, 9]), ([0, 6, 0], [0]), ([10, 11, 0, 1, 2, 3, 4, 5, 6, 7, 8, 9, 10, 11], [10])])
def script_number.B12 : List Nat := [0, 0, 2, 6, 14, 30, 62, 30, 158, 510, 1022, 127, 4095]
theorem script_number.tab12 : rtab .any (opsOf Tryd.f56 12) = script_number.T12 := by kernel_rfl
theorem script_number.bits12 : waitsOk script_number.T12.2 script_number.B12 = true := by kernel_rfl
set_option maxHeartbeats 8000000 in
set_option maxRecDepth 100000 in
theorem script_number.calls (k : Nat) (a0_0 : ByteArray) (a0_1 : Bool) (r1 : Int) (r2 : Bool) (w : World) (hT : Tab w) (h : script_number.f k a0_0 a0_1 = some (r1, r2)) :
  Calls Tryd.prog 56 #[.agg #[.string a0_0, .bool a0_1]] w fun e w' => e = .returned (.tuple #[.int .i64 r1, .bool r2]) ∧ Below w.heap.size w w' := by
 have hu88 := Tryd.underlying88
 have HB := Aside0.mk (Below.refl w.heap.size w)
 have HT := Aside0.mk hT
 clear hT
 have H : ((strings_TrimPrefix.f a0_0 (⟨#[45]⟩ : ByteArray)).bind fun t128 => (script_number.l0 k t128 0 (t128.size : Int) 0 a0_0 a0_1)) = some (r1, r2) := h
 clear h
 replace H := Option.bind_eq_some_iff.mp H
 obtain ⟨t128, A20, H⟩ := H
 replace H : (script_number.l0 k t128 0 (t128.size : Int) 0 a0_0 a0_1) = some (r1, r2) := H
 have A2 := Aside0.mk A20
 clear A20
 have H' := Aside0.mk H
 clear H
 go_enter Tryd.func56, Tryd.ntmps56
 go_wp2_with (first | ((with_reducible refine zbm (N := 1) rfl ?_); refine zbn ?hg (N := 1) ?hd (cs := #[.string a0_0, .bool a0_1]) (t := 88) ?hr ?_; (case hd => rfl); (case hg => rfl); (case hr => first | (go_simp; done) | (go_simp; rfl)); intro gb127 hg w3 hbox hb; have n0_ := Aside0.mk (zap (by repeat with_reducible first | exact HB.out | apply zae | apply zac | apply zad) hb); have n1_ := Aside0.mk (hbox); have n2_ := Aside0.mk ((by rw [hg]; exact (zal (by repeat with_reducible first | exact HB.out | apply zae | apply zac | apply zad)) : w.heap.size ≤ gb127)); have n3_ := Aside0.mk ((by rw [hg]; exact (zal (by repeat with_reducible first | exact HB.out | apply zae | apply zac | apply zad)) : w.heap.size ≤ gb127)); clear HB; have HB := n0_; have BK127 := n1_; have GW127 := n2_; have GE127 := n3_; clear n0_ n1_ n2_ n3_; clear hb hbox hg; have hcz4_0 : w3.cell? ⟨gb127, 0, none⟩ = some (.string a0_0) := (zaa BK127.out 0).trans rfl; have hcz4_1 : w3.cell? ⟨gb127, 1, none⟩ = some (.bool a0_1) := (zaa BK127.out 1).trans rfl; have hfz4_0 := zab BK127.out 0; have hfz4_1 := zab BK127.out 1) | ((with_reducible refine zay (f := 70) rfl ?_); refine goesL_ (some 9) rfl rfl Tryd.func70 (by kernel_rfl) rfl #[.string a0_0, .string (⟨#[45]⟩ : ByteArray)] rfl (by (try simp only [List.map_toArray, List.map_cons, List.map_nil]); first | done | rfl | (simp only [List.length_drop, List.length_take]; rfl)) ?_; (with_reducible refine (strings_TrimPrefix.calls a0_0 (⟨#[45]⟩ : ByteArray) t128 _ A2.out).mono ?_); rintro e w' ⟨rfl, ⟨nd, rfl⟩⟩; refine ⟨_, rfl, ?_⟩))
 go_loopg [5, 12] k (fun kq v5 v12 w' => ∃ (x5_1 : Int) (x12_1 : Int), v5 = .int .i64 x5_1 ∧ v12 = .int .i64 x12_1 ∧ Aside0 (script_number.l0 kq t128 x5_1 (t128.size : Int) x12_1 a0_0 a0_1 = some (r1, r2)) ∧ Aside0 (kq ≤ k) ∧ Aside0 (w'.heap[gb127]? = some (.cells #[.string a0_0, .bool a0_1] 88 (0, 0))) ∧ Aside0 (Below w.heap.size w w'))
 case atStart => exact ⟨(0), (0), (by first | rfl | (simp; done) | (simp [*]; done)), (by first | rfl | (simp; done) | (simp [*]; done)), H', ⟨Nat.le_refl _⟩, ⟨by (with_reducible repeat (first | refine zai ?_ _ | refine zaj ?_ | refine zag ?_ _)); exact BK127.out⟩, ⟨by repeat with_reducible first | exact HB.out | apply zae | apply zac | apply zad | refine zah ?_ GE127.out⟩⟩
 case round =>
  clear H'
  try clear p2
  try clear hcz4_0
  try clear hcz4_1
  try clear hfz4_0
  try clear hfz4_1
  obtain ⟨x5_1, x12_1, rfl, rfl, HA, HK1, BK127, HB⟩ := hrel
  cases gk with
  | zero => exact absurd HA.out (by simp [script_number.l0])
  | succ k1 =>
   have H := HA.out
   clear HA
   simp only [script_number.l0] at H
   by_cases c5 : x12_1 < (t128.size : Int)
   ·
    rw [if_pos c5] at H
    have c5b0 : decide (x12_1 < (t128.size : Int)) = true := decide_eq_true c5
    clear c5
    by_cases c6 : 0 ≤ x12_1
    rotate_left
    ·
     rw [if_neg c6] at H
     exact absurd H (by simp)
    rw [if_pos c6] at H
    have c6b0 : decide (0 ≤ x12_1) = true := decide_eq_true c6
    clear c6
    by_cases c7 : x12_1 < (t128.size : Int)
    rotate_left
    ·
     rw [if_neg c7] at H
     exact absurd H (by simp)
    rw [if_pos c7] at H
    have c7b0 : decide (x12_1 < (t128.size : Int)) = true := decide_eq_true c7
    clear c7
    by_cases c9 : (bt t128 x12_1) < 48
    ·
     rw [if_pos c9] at H
     have c9b0 : decide ((bt t128 x12_1) < 48) = true := decide_eq_true c9
     clear c9
     simp only [Option.some.injEq, Prod.mk.injEq] at H
     obtain ⟨rfl, rfl⟩ := H
     have p8 : 0 ≤ (x12_1 : Int) := of_decide_eq_true (by first | (with_reducible assumption) | assumption)
     have q8 : x12_1 < (t128.size : Int) := of_decide_eq_true (by first | (with_reducible assumption) | assumption)
     have hx8 := bt_at t128 x12_1
     replace p8 := eq_true p8
     replace q8 := eq_true q8
     go_wp2
     go_ret2
     exact ⟨by first | rfl | (simp [zam, zan] <;> rfl) | (simp [*, zam, zan] <;> rfl), by repeat with_reducible first | exact HB.out | apply zae | apply zac | apply zad | refine zah ?_ GE127.out⟩
    rw [if_neg c9] at H
    have c9b0 : decide ((bt t128 x12_1) < 48) = false := decide_eq_false c9
    clear c9
    by_cases c11 : (bt t128 x12_1) > 57
    ·
     rw [if_pos c11] at H
     have c11b0 : decide (57 < (bt t128 x12_1)) = true := decide_eq_true c11
     clear c11
     simp only [Option.some.injEq, Prod.mk.injEq] at H
     obtain ⟨rfl, rfl⟩ := H
     have p8 : 0 ≤ (x12_1 : Int) := of_decide_eq_true (by first | (with_reducible assumption) | assumption)
     have q8 : x12_1 < (t128.size : Int) := of_decide_eq_true (by first | (with_reducible assumption) | assumption)
     have hx8 := bt_at t128 x12_1
     replace p8 := eq_true p8
     replace q8 := eq_true q8
     have p10 : 0 ≤ (x12_1 : Int) := of_decide_eq_true (by first | (with_reducible assumption) | assumption)
     have q10 : x12_1 < (t128.size : Int) := of_decide_eq_true (by first | (with_reducible assumption) | assumption)
     have hx10 := bt_at t128 x12_1
     replace p10 := eq_true p10
     replace q10 := eq_true q10
     go_wp2
     go_ret2
     exact ⟨by first | rfl | (simp [zam, zan] <;> rfl) | (simp [*, zam, zan] <;> rfl), by repeat with_reducible first | exact HB.out | apply zae | apply zac | apply zad | refine zah ?_ GE127.out⟩
    rw [if_neg c11] at H
    have c11b0 : decide (57 < (bt t128 x12_1)) = false := decide_eq_false c11
    clear c11
    by_cases c12 : x12_1 > 18
    ·
     rw [if_pos c12] at H
     have c12b0 : decide (18 < x12_1) = true := decide_eq_true c12
     clear c12
     simp only [Option.some.injEq, Prod.mk.injEq] at H
     obtain ⟨rfl, rfl⟩ := H
     have p8 : 0 ≤ (x12_1 : Int) := of_decide_eq_true (by first | (with_reducible assumption) | assumption)
     have q8 : x12_1 < (t128.size : Int) := of_decide_eq_true (by first | (with_reducible assumption) | assumption)
     have hx8 := bt_at t128 x12_1
     replace p8 := eq_true p8
     replace q8 := eq_true q8
     have p10 : 0 ≤ (x12_1 : Int) := of_decide_eq_true (by first | (with_reducible assumption) | assumption)
     have q10 : x12_1 < (t128.size : Int) := of_decide_eq_true (by first | (with_reducible assumption) | assumption)
     have hx10 := bt_at t128 x12_1
     replace p10 := eq_true p10
     replace q10 := eq_true q10
     go_wp2
     go_ret2
     exact ⟨by first | rfl | (simp [zam, zan] <;> rfl) | (simp [*, zam, zan] <;> rfl), by repeat with_reducible first | exact HB.out | apply zae | apply zac | apply zad | refine zah ?_ GE127.out⟩
    rw [if_neg c12] at H
    have c12b0 : decide (18 < x12_1) = false := decide_eq_false c12
    clear c12
    have H' := Aside0.mk H
    clear H
    have p8 : 0 ≤ (x12_1 : Int) := of_decide_eq_true (by first | (with_reducible assumption) | assumption)
    have q8 : x12_1 < (t128.size : Int) := of_decide_eq_true (by first | (with_reducible assumption) | assumption)
    have hx8 := bt_at t128 x12_1
    replace p8 := eq_true p8
    replace q8 := eq_true q8
    have p10 : 0 ≤ (x12_1 : Int) := of_decide_eq_true (by first | (with_reducible assumption) | assumption)
    have q10 : x12_1 < (t128.size : Int) := of_decide_eq_true (by first | (with_reducible assumption) | assumption)
    have hx10 := bt_at t128 x12_1
    replace p10 := eq_true p10
    replace q10 := eq_true q10
    have p13 : 0 ≤ (x12_1 : Int) := of_decide_eq_true (by first | (with_reducible assumption) | assumption)
    have q13 : x12_1 < (t128.size : Int) := of_decide_eq_true (by first | (with_reducible assumption) | assumption)
    have hx13 := bt_at t128 x12_1
    replace p13 := eq_true p13
    replace q13 := eq_true q13
    go_wp2
    go_roundg k1
    case measure => have := HK1.out; omega
    case rel => exact ⟨(wrap64 ((wrap64 (10 * x5_1)) - (((bt t128 x12_1) - 48) % 256))), (wrap64 (x12_1 + 1)), (by first | rfl | (simp; done) | (simp [*]; done)), (by first | rfl | (simp; done) | (simp [*]; done)), H', ⟨by have := HK1.out; omega⟩, ⟨by (with_reducible repeat (first | refine zai ?_ _ | refine zaj ?_ | refine zag ?_ _)); exact BK127.out⟩, ⟨by repeat with_reducible first | exact HB.out | apply zae | apply zac | apply zad | refine zah ?_ GE127.out⟩⟩
   rw [if_neg c5] at H
   have c5b0 : decide (x12_1 < (t128.size : Int)) = false := decide_eq_false c5
   clear c5
   by_cases c14 : (t128.size : Int) = (a0_0.size : Int)
   ·
    rw [if_pos c14] at H
    have c14b0 : ((t128.size : Int) == (a0_0.size : Int)) = true := beq_iff_eq.mpr c14
    have c14b1 : ((t128.size : Int) != (a0_0.size : Int)) = false := bne_eq_false_iff_eq.mpr c14
    have c14b2 : (t128.size == a0_0.size) = true := by first | simpa using c14 | (simp at c14 ⊢; omega)
    clear c14
    by_cases c15 : a0_1 = true
    ·
     subst c15
     have H1 : (some (wrap64 (-x5_1), false)) = some (r1, r2) := by rw [if_pos rfl] at H; exact H
     clear H
     have H := H1
     clear H1
     simp only [Option.some.injEq, Prod.mk.injEq] at H
     obtain ⟨rfl, rfl⟩ := H
     have hcz16_0 : wr.cell? ⟨gb127, 0, none⟩ = some (.string a0_0) := (zaa BK127.out 0).trans rfl
     have hcz16_1 : wr.cell? ⟨gb127, 1, none⟩ = some (.bool true) := (zaa BK127.out 1).trans rfl
     have hfz16_0 := zab BK127.out 0
     have hfz16_1 := zab BK127.out 1
     try go_wp2
     have n0_ := Aside0.mk (zaj BK127.out)
     have n1_ := Aside0.mk (zad HB.out)
     clear BK127
     clear HB
     have BK127 := n0_
     have HB := n1_
     clear n0_ n1_
     refine start_ (n := 13) (S := fun w' => w'.cell? ⟨gb127, 0, none⟩ = some (.string a0_0) ∧ w'.cell? ⟨gb127, 1, none⟩ = some (.bool true)) (ds := []) #[false, false, false, false, false, false, false, false, false, false, false, false, false] (by kernel_rfl) rfl rfl ⟨(zaa BK127.out 0).trans rfl, (zaa BK127.out 1).trans rfl⟩ (fun hHeld => ?_); refine zbp script_number.tab12 script_number.bits12 (fun HT_ HW_ => ?_)
     generalize wr.drew = w17 at BK127 HB hHeld ⊢
     refine pure_ (i := 0) (N := some 46) (v := ?_) (a' := ?_) (tm 13 1) rfl rfl (zak HT_.out (by kernel_rfl)) (fun _ _ _ h => h) (Or.inl ⟨by rfl, ?_⟩) ?_ ?_
     rotate_left
     ·
      intro w'
      go_simp
      with_reducible rfl
     rotate_left
     ·
      simp only [aw]
      rfl
     refine pure_ (i := 1) (N := some 47) (v := ?_) (a' := ?_) (tm 13 3) rfl rfl (zak HT_.out (by kernel_rfl)) (fun _ _ _ h => h) (Or.inl ⟨by rfl, ?_⟩) ?_ ?_
     rotate_left
     ·
      intro w'
      go_simp
      with_reducible rfl
     rotate_left
     ·
      simp only [aw]
      rfl
     refine take_ (i := 2) (N := some 48) (v := ?_) (a' := ?_) #[true, true, true, false, false, false, false, false, false, false, false, false, false] rfl rfl (zat HT_.out HW_.out (by kernel_rfl)) (fun _ _ _ h => h) (Or.inl ⟨by rfl, ?_⟩) hHeld ?_ ?_
     rotate_left
     ·
      rintro w' ⟨s0, s1⟩
      go_simp
      with_reducible rfl
     rotate_left
     ·
      simp only [aw]
      rfl
     refine pure_ (i := 3) (N := some 49) (v := ?_) (a' := ?_) (tm 13 15) rfl rfl (zak HT_.out (by kernel_rfl)) (fun _ _ _ h => h) (Or.inl ⟨by rfl, ?_⟩) ?_ ?_
     rotate_left
     ·
      intro w'
      go_simp
      with_reducible rfl
     rotate_left
     ·
      simp only [aw]
      rfl
     refine pure_ (i := 4) (N := some 50) (v := ?_) (a' := ?_) (tm 13 31) rfl rfl (zak HT_.out (by kernel_rfl)) (fun _ _ _ h => h) (Or.inl ⟨by rfl, ?_⟩) ?_ ?_
     rotate_left
     ·
      intro w'
      go_simp
      with_reducible rfl
     rotate_left
     ·
      simp only [aw]
      rfl
     refine pure_ (i := 5) (N := some 51) (v := undef) (a' := ?_) (tm 13 63) rfl rfl (zak HT_.out (by kernel_rfl)) (fun _ _ _ h => h) (Or.inr ⟨by rfl, rfl⟩) ?_ ?_
     rotate_left
     ·
      simp only [aw]
      rfl
     refine pure_ (i := 6) (N := some 52) (v := undef) (a' := ?_) (tm 13 127) rfl rfl (zak HT_.out (by kernel_rfl)) (fun _ _ _ h => h) (Or.inr ⟨by rfl, rfl⟩) ?_ ?_
     rotate_left
     ·
      simp only [aw]
      rfl
     refine pure_ (i := 7) (N := some 53) (v := undef) (a' := ?_) (tm 13 255) rfl rfl (zak HT_.out (by kernel_rfl)) (fun _ _ _ h => h) (Or.inr ⟨by rfl, rfl⟩) ?_ ?_
     rotate_left
     ·
      simp only [aw]
      rfl
     refine pure_ (i := 8) (N := some 54) (v := undef) (a' := ?_) (tm 13 511) rfl rfl (zak HT_.out (by kernel_rfl)) (fun _ _ _ h => h) (Or.inr ⟨by rfl, rfl⟩) ?_ ?_
     rotate_left
     ·
      simp only [aw]
      rfl
     refine pure_ (i := 9) (N := some 55) (v := undef) (a' := ?_) (tm 13 1023) rfl rfl (zak HT_.out (by kernel_rfl)) (fun _ _ _ h => h) (Or.inr ⟨by rfl, rfl⟩) ?_ ?_
     rotate_left
     ·
      simp only [aw]
      rfl
     refine pure_ (i := 10) (N := some 56) (v := ?_) (a' := ?_) (tm 13 2047) rfl rfl (zak HT_.out (by kernel_rfl)) (fun _ _ _ h => h) (Or.inl ⟨by rfl, ?_⟩) ?_ ?_
     rotate_left
     ·
      intro w'
      go_simp
      with_reducible rfl
     rotate_left
     ·
      simp only [aw]
      rfl
     refine pure_ (i := 11) (N := some 2) (v := ?_) (a' := ?_) (tm 13 4095) rfl rfl (zak HT_.out (by kernel_rfl)) (fun _ _ _ h => h) (Or.inl ⟨by rfl, ?_⟩) ?_ ?_
     rotate_left
     ·
      intro w'
      go_simp
      with_reducible rfl
     rotate_left
     ·
      simp only [aw]
      rfl
     refine pure_ (i := 12) (N := some 3) (v := ?_) (a' := ?_) (tm 13 8191) rfl rfl (zak HT_.out (by kernel_rfl)) (fun _ _ _ h => h) (Or.inl ⟨by rfl, ?_⟩) ?_ ?_
     rotate_left
     ·
      intro w'
      go_simp
      with_reducible rfl
     rotate_left
     ·
      simp only [aw]
      rfl
     refine done_ (done_of HT_.out (by kernel_rfl)) ?_
     try go_wp2
     go_ret2
     exact ⟨by first | rfl | (simp [zam, zan] <;> rfl) | (simp [*, zam, zan] <;> rfl), by repeat with_reducible first | exact HB.out | apply zae | apply zac | apply zad | refine zah ?_ GE127.out⟩
    replace c15 := Bool.eq_false_iff.mpr c15
    subst c15
    have H1 : ((strconv_FormatInt.f (wrap64 (-x5_1)) 10).bind fun t129 => (some (wrap64 (-x5_1), (t129.toList == a0_0.toList)))) = some (r1, r2) := by rw [if_neg (show ¬ (false = true) by decide)] at H; exact H
    clear H
    have H := H1
    clear H1
    replace H := Option.bind_eq_some_iff.mp H
    obtain ⟨t129, A180, H⟩ := H
    replace H : (some (wrap64 (-x5_1), (t129.toList == a0_0.toList))) = some (r1, r2) := H
    have A18 := Aside0.mk A180
    clear A180
    simp only [Option.some.injEq, Prod.mk.injEq] at H
    obtain ⟨rfl, rfl⟩ := H
    have hcz19_0 : wr.cell? ⟨gb127, 0, none⟩ = some (.string a0_0) := (zaa BK127.out 0).trans rfl
    have hcz19_1 : wr.cell? ⟨gb127, 1, none⟩ = some (.bool false) := (zaa BK127.out 1).trans rfl
    have hfz19_0 := zab BK127.out 0
    have hfz19_1 := zab BK127.out 1
    try go_wp2
    have n0_ := Aside0.mk (zaj BK127.out)
    have n1_ := Aside0.mk (zad HB.out)
    clear BK127
    clear HB
    have BK127 := n0_
    have HB := n1_
    clear n0_ n1_
    refine start_ (n := 13) (S := fun w' => w'.cell? ⟨gb127, 0, none⟩ = some (.string a0_0) ∧ w'.cell? ⟨gb127, 1, none⟩ = some (.bool false)) (ds := []) #[false, false, false, false, false, false, false, false, false, false, false, false, false] (by kernel_rfl) rfl rfl ⟨(zaa BK127.out 0).trans rfl, (zaa BK127.out 1).trans rfl⟩ (fun hHeld => ?_); refine zbp script_number.tab12 script_number.bits12 (fun HT_ HW_ => ?_)
    generalize wr.drew = w20 at BK127 HB hHeld ⊢
    refine pure_ (i := 0) (N := some 46) (v := ?_) (a' := ?_) (tm 13 1) rfl rfl (zak HT_.out (by kernel_rfl)) (fun _ _ _ h => h) (Or.inl ⟨by rfl, ?_⟩) ?_ ?_
    rotate_left
    ·
     intro w'
     go_simp
     with_reducible rfl
    rotate_left
    ·
     simp only [aw]
     rfl
    refine pure_ (i := 1) (N := some 47) (v := ?_) (a' := ?_) (tm 13 3) rfl rfl (zak HT_.out (by kernel_rfl)) (fun _ _ _ h => h) (Or.inl ⟨by rfl, ?_⟩) ?_ ?_
    rotate_left
    ·
     intro w'
     go_simp
     with_reducible rfl
    rotate_left
    ·
     simp only [aw]
     rfl
    refine take_ (i := 2) (N := some 48) (v := ?_) (a' := ?_) #[true, true, true, false, false, false, false, false, false, false, false, false, false] rfl rfl (zat HT_.out HW_.out (by kernel_rfl)) (fun _ _ _ h => h) (Or.inl ⟨by rfl, ?_⟩) hHeld ?_ ?_
    rotate_left
    ·
     rintro w' ⟨s0, s1⟩
     go_simp
     with_reducible rfl
    rotate_left
    ·
     simp only [aw]
     rfl
    refine pure_ (i := 3) (N := some 49) (v := ?_) (a' := ?_) (tm 13 15) rfl rfl (zak HT_.out (by kernel_rfl)) (fun _ _ _ h => h) (Or.inl ⟨by rfl, ?_⟩) ?_ ?_
    rotate_left
    ·
     intro w'
     go_simp
     with_reducible rfl
    rotate_left
    ·
     simp only [aw]
     rfl
    refine pure_ (i := 4) (N := some 50) (v := ?_) (a' := ?_) (tm 13 31) rfl rfl (zak HT_.out (by kernel_rfl)) (fun _ _ _ h => h) (Or.inl ⟨by rfl, ?_⟩) ?_ ?_
    rotate_left
    ·
     intro w'
     go_simp
     with_reducible rfl
    rotate_left
    ·
     simp only [aw]
     rfl
    refine pure_ (i := 5) (N := some 51) (v := ?_) (a' := ?_) (tm 13 63) rfl rfl (zak HT_.out (by kernel_rfl)) (fun _ _ _ h => h) (Or.inl ⟨by rfl, ?_⟩) ?_ ?_
    rotate_left
    ·
     intro w'
     go_simp
     with_reducible rfl
    rotate_left
    ·
     simp only [aw]
     rfl
    refine pure_ (i := 7) (N := some 53) (v := ?_) (a' := ?_) (tm 13 191) rfl rfl (zak HT_.out (by kernel_rfl)) (fun _ _ _ h => h) (Or.inl ⟨by rfl, ?_⟩) ?_ ?_
    rotate_left
    ·
     intro w'
     go_simp
     with_reducible rfl
    rotate_left
    ·
     simp only [aw]
     rfl
    refine take_ (i := 8) (N := some 54) (v := ?_) (a' := ?_) #[true, true, true, true, true, true, false, true, true, false, false, false, false] rfl rfl (zat HT_.out HW_.out (by kernel_rfl)) (fun _ _ _ h => h) (Or.inl ⟨by rfl, ?_⟩) hHeld ?_ ?_
    rotate_left
    ·
     rintro w' ⟨s0, s1⟩
     go_simp
     with_reducible rfl
    rotate_left
    ·
     simp only [aw]
     rfl
    refine one_ (i := 6) (N := some 52) (tm 13 511) rfl rfl (one_of HT_.out (by kernel_rfl)) (by decide) (fun K hK => ?_)
    refine goes_ Tryd.func38 (by kernel_rfl) rfl #[.int .i64 (wrap64 (-x5_1)), .int .i64 10] (by rfl) rfl rfl (by (try simp only [List.map_toArray, List.map_cons, List.map_nil]); first | done | rfl | (simp only [List.length_drop, List.length_take]; rfl)) ?_
    with_reducible refine (strconv_FormatInt.calls (wrap64 (-x5_1)) 10 t129 _ ?side1 A18.out).mono ?_
    (case side1 => exact zba HT.out (by repeat with_reducible first | exact HB.out | apply zae | apply zac | apply zad | refine zah ?_ GE127.out))
    rintro e w21 ⟨rfl, hb⟩
    refine ⟨_, rfl, ?_⟩
    have n0_ := Aside0.mk (zaz (g := gb127) (o := .cells #[.string a0_0, .bool false] 88 (0, 0)) (by (with_reducible repeat (first | refine zai ?_ _ | refine zaj ?_ | refine zag ?_ _)); exact BK127.out) hb)
    have n1_ := Aside0.mk (zap (by repeat with_reducible first | exact HB.out | apply zae | apply zac | apply zad | refine zah ?_ GE127.out) hb)
    clear BK127
    clear HB
    have BK127 := n0_
    have HB := n1_
    clear n0_ n1_
    (try clear hb)
    (try clear hb2)
    (try clear hk)
    (try clear hi)
    refine hK.out _ _ ⟨(zaa BK127.out 0).trans rfl, (zaa BK127.out 1).trans rfl⟩ (fun hHeld => ?_)
    clear hK K
    refine norm_ (a' := ?_) ?_ ?_
    rotate_left
    ·
     show Act.put _ (some 52) _ = _
     simp only [aw]
     rfl
    refine pure_ (i := 9) (N := some 55) (v := ?_) (a' := ?_) (tm 13 1023) rfl rfl (zak HT_.out (by kernel_rfl)) (fun _ _ _ h => h) (Or.inl ⟨by rfl, ?_⟩) ?_ ?_
    rotate_left
    ·
     intro w'
     go_simp
     with_reducible rfl
    rotate_left
    ·
     simp only [aw]
     rfl
    refine pure_ (i := 10) (N := some 56) (v := ?_) (a' := ?_) (tm 13 2047) rfl rfl (zak HT_.out (by kernel_rfl)) (fun _ _ _ h => h) (Or.inl ⟨by rfl, ?_⟩) ?_ ?_
    rotate_left
    ·
     intro w'
     go_simp
     with_reducible rfl
    rotate_left
    ·
     simp only [aw]
     rfl
    refine pure_ (i := 11) (N := some 2) (v := ?_) (a' := ?_) (tm 13 4095) rfl rfl (zak HT_.out (by kernel_rfl)) (fun _ _ _ h => h) (Or.inl ⟨by rfl, ?_⟩) ?_ ?_
    rotate_left
    ·
     intro w'
     go_simp
     with_reducible rfl
    rotate_left
    ·
     simp only [aw]
     rfl
    refine pure_ (i := 12) (N := some 3) (v := ?_) (a' := ?_) (tm 13 8191) rfl rfl (zak HT_.out (by kernel_rfl)) (fun _ _ _ h => h) (Or.inl ⟨by rfl, ?_⟩) ?_ ?_
    rotate_left
    ·
     intro w'
     go_simp
     with_reducible rfl
    rotate_left
    ·
     simp only [aw]
     rfl
    refine done_ (done_of HT_.out (by kernel_rfl)) ?_
    try go_wp2
    go_ret2
    exact ⟨by first | rfl | (simp [zam, zan] <;> rfl) | (simp [*, zam, zan] <;> rfl), by repeat with_reducible first | exact HB.out | apply zae | apply zac | apply zad | refine zah ?_ GE127.out⟩
   rw [if_neg c14] at H
   have c14b0 : ((t128.size : Int) == (a0_0.size : Int)) = false := beq_eq_false_iff_ne.mpr c14
   have c14b1 : ((t128.size : Int) != (a0_0.size : Int)) = true := bne_iff_ne.mpr c14
   have c14b2 : (t128.size == a0_0.size) = false := by first | simpa using c14 | (simp at c14 ⊢; omega)
   by_cases c22 : a0_1 = true
   ·
    subst c22
    have H1 : (some (x5_1, false)) = some (r1, r2) := by rw [if_pos rfl] at H; exact H
    clear H
    have H := H1
    clear H1
    simp only [Option.some.injEq, Prod.mk.injEq] at H
    obtain ⟨rfl, rfl⟩ := H
    have hcz23_0 : wr.cell? ⟨gb127, 0, none⟩ = some (.string a0_0) := (zaa BK127.out 0).trans rfl
    have hcz23_1 : wr.cell? ⟨gb127, 1, none⟩ = some (.bool true) := (zaa BK127.out 1).trans rfl
    have hfz23_0 := zab BK127.out 0
    have hfz23_1 := zab BK127.out 1
    try go_wp2
    have n0_ := Aside0.mk (zaj BK127.out)
    have n1_ := Aside0.mk (zad HB.out)
    clear BK127
    clear HB
    have BK127 := n0_
    have HB := n1_
    clear n0_ n1_
    refine start_ (n := 13) (S := fun w' => w'.cell? ⟨gb127, 0, none⟩ = some (.string a0_0) ∧ w'.cell? ⟨gb127, 1, none⟩ = some (.bool true)) (ds := []) #[false, false, false, false, false, false, false, false, false, false, false, false, false] (by kernel_rfl) rfl rfl ⟨(zaa BK127.out 0).trans rfl, (zaa BK127.out 1).trans rfl⟩ (fun hHeld => ?_); refine zbp script_number.tab12 script_number.bits12 (fun HT_ HW_ => ?_)
    generalize wr.drew = w24 at BK127 HB hHeld ⊢
    refine pure_ (i := 0) (N := some 46) (v := ?_) (a' := ?_) (tm 13 1) rfl rfl (zak HT_.out (by kernel_rfl)) (fun _ _ _ h => h) (Or.inl ⟨by rfl, ?_⟩) ?_ ?_
    rotate_left
    ·
     intro w'
     go_simp
     with_reducible rfl
    rotate_left
    ·
     simp only [aw]
     rfl
    refine pure_ (i := 1) (N := some 47) (v := ?_) (a' := ?_) (tm 13 3) rfl rfl (zak HT_.out (by kernel_rfl)) (fun _ _ _ h => h) (Or.inl ⟨by rfl, ?_⟩) ?_ ?_
    rotate_left
    ·
     intro w'
     go_simp
     with_reducible rfl
    rotate_left
    ·
     simp only [aw]
     rfl
    refine take_ (i := 2) (N := some 48) (v := ?_) (a' := ?_) #[true, true, true, false, false, false, false, false, false, false, false, false, false] rfl rfl (zat HT_.out HW_.out (by kernel_rfl)) (fun _ _ _ h => h) (Or.inl ⟨by rfl, ?_⟩) hHeld ?_ ?_
    rotate_left
    ·
     rintro w' ⟨s0, s1⟩
     go_simp
     with_reducible rfl
    rotate_left
    ·
     simp only [aw]
     rfl
    refine pure_ (i := 3) (N := some 49) (v := ?_) (a' := ?_) (tm 13 15) rfl rfl (zak HT_.out (by kernel_rfl)) (fun _ _ _ h => h) (Or.inl ⟨by rfl, ?_⟩) ?_ ?_
    rotate_left
    ·
     intro w'
     go_simp
     with_reducible rfl
    rotate_left
    ·
     simp only [aw]
     rfl
    refine pure_ (i := 4) (N := some 50) (v := ?_) (a' := ?_) (tm 13 31) rfl rfl (zak HT_.out (by kernel_rfl)) (fun _ _ _ h => h) (Or.inl ⟨by rfl, ?_⟩) ?_ ?_
    rotate_left
    ·
     intro w'
     go_simp
     with_reducible rfl
    rotate_left
    ·
     simp only [aw]
     rfl
    refine pure_ (i := 5) (N := some 51) (v := undef) (a' := ?_) (tm 13 63) rfl rfl (zak HT_.out (by kernel_rfl)) (fun _ _ _ h => h) (Or.inr ⟨by rfl, rfl⟩) ?_ ?_
    rotate_left
    ·
     simp only [aw]
     rfl
    refine pure_ (i := 6) (N := some 52) (v := undef) (a' := ?_) (tm 13 127) rfl rfl (zak HT_.out (by kernel_rfl)) (fun _ _ _ h => h) (Or.inr ⟨by rfl, rfl⟩) ?_ ?_
    rotate_left
    ·
     simp only [aw]
     rfl
    refine pure_ (i := 7) (N := some 53) (v := undef) (a' := ?_) (tm 13 255) rfl rfl (zak HT_.out (by kernel_rfl)) (fun _ _ _ h => h) (Or.inr ⟨by rfl, rfl⟩) ?_ ?_
    rotate_left
    ·
     simp only [aw]
     rfl
    refine pure_ (i := 8) (N := some 54) (v := undef) (a' := ?_) (tm 13 511) rfl rfl (zak HT_.out (by kernel_rfl)) (fun _ _ _ h => h) (Or.inr ⟨by rfl, rfl⟩) ?_ ?_
    rotate_left
    ·
     simp only [aw]
     rfl
    refine pure_ (i := 9) (N := some 55) (v := undef) (a' := ?_) (tm 13 1023) rfl rfl (zak HT_.out (by kernel_rfl)) (fun _ _ _ h => h) (Or.inr ⟨by rfl, rfl⟩) ?_ ?_
    rotate_left
    ·
     simp only [aw]
     rfl
    refine pure_ (i := 10) (N := some 56) (v := ?_) (a' := ?_) (tm 13 2047) rfl rfl (zak HT_.out (by kernel_rfl)) (fun _ _ _ h => h) (Or.inl ⟨by rfl, ?_⟩) ?_ ?_
    rotate_left
    ·
     intro w'
     go_simp
     with_reducible rfl
    rotate_left
    ·
     simp only [aw]
     rfl
    refine pure_ (i := 11) (N := some 2) (v := ?_) (a' := ?_) (tm 13 4095) rfl rfl (zak HT_.out (by kernel_rfl)) (fun _ _ _ h => h) (Or.inl ⟨by rfl, ?_⟩) ?_ ?_
    rotate_left
    ·
     intro w'
     go_simp
     with_reducible rfl
    rotate_left
    ·
     simp only [aw]
     rfl
    refine pure_ (i := 12) (N := some 3) (v := ?_) (a' := ?_) (tm 13 8191) rfl rfl (zak HT_.out (by kernel_rfl)) (fun _ _ _ h => h) (Or.inl ⟨by rfl, ?_⟩) ?_ ?_
    rotate_left
    ·
     intro w'
     go_simp
     with_reducible rfl
    rotate_left
    ·
     simp only [aw]
     rfl
    refine done_ (done_of HT_.out (by kernel_rfl)) ?_
    try go_wp2
    go_ret2
    exact ⟨by first | rfl | (simp [zam, zan] <;> rfl) | (simp [*, zam, zan] <;> rfl), by repeat with_reducible first | exact HB.out | apply zae | apply zac | apply zad | refine zah ?_ GE127.out⟩
   replace c22 := Bool.eq_false_iff.mpr c22
   subst c22
   have H1 : ((strconv_FormatInt.f x5_1 10).bind fun t130 => (some (x5_1, (t130.toList == a0_0.toList)))) = some (r1, r2) := by rw [if_neg (show ¬ (false = true) by decide)] at H; exact H
   clear H
   have H := H1
   clear H1
   replace H := Option.bind_eq_some_iff.mp H
   obtain ⟨t130, A250, H⟩ := H
   replace H : (some (x5_1, (t130.toList == a0_0.toList))) = some (r1, r2) := H
   have A25 := Aside0.mk A250
   clear A250
   simp only [Option.some.injEq, Prod.mk.injEq] at H
   obtain ⟨rfl, rfl⟩ := H
   have hcz26_0 : wr.cell? ⟨gb127, 0, none⟩ = some (.string a0_0) := (zaa BK127.out 0).trans rfl
   have hcz26_1 : wr.cell? ⟨gb127, 1, none⟩ = some (.bool false) := (zaa BK127.out 1).trans rfl
   have hfz26_0 := zab BK127.out 0
   have hfz26_1 := zab BK127.out 1
   try go_wp2
   have n0_ := Aside0.mk (zaj BK127.out)
   have n1_ := Aside0.mk (zad HB.out)
   clear BK127
   clear HB
   have BK127 := n0_
   have HB := n1_
   clear n0_ n1_
   refine start_ (n := 13) (S := fun w' => w'.cell? ⟨gb127, 0, none⟩ = some (.string a0_0) ∧ w'.cell? ⟨gb127, 1, none⟩ = some (.bool false)) (ds := []) #[false, false, false, false, false, false, false, false, false, false, false, false, false] (by kernel_rfl) rfl rfl ⟨(zaa BK127.out 0).trans rfl, (zaa BK127.out 1).trans rfl⟩ (fun hHeld => ?_); refine zbp script_number.tab12 script_number.bits12 (fun HT_ HW_ => ?_)
   generalize wr.drew = w27 at BK127 HB hHeld ⊢
   refine pure_ (i := 0) (N := some 46) (v := ?_) (a' := ?_) (tm 13 1) rfl rfl (zak HT_.out (by kernel_rfl)) (fun _ _ _ h => h) (Or.inl ⟨by rfl, ?_⟩) ?_ ?_
   rotate_left
   ·
    intro w'
    go_simp
    with_reducible rfl
   rotate_left
   ·
    simp only [aw]
    rfl
   refine pure_ (i := 1) (N := some 47) (v := ?_) (a' := ?_) (tm 13 3) rfl rfl (zak HT_.out (by kernel_rfl)) (fun _ _ _ h => h) (Or.inl ⟨by rfl, ?_⟩) ?_ ?_
   rotate_left
   ·
    intro w'
    go_simp
    with_reducible rfl
   rotate_left
   ·
    simp only [aw]
    rfl
   refine take_ (i := 2) (N := some 48) (v := ?_) (a' := ?_) #[true, true, true, false, false, false, false, false, false, false, false, false, false] rfl rfl (zat HT_.out HW_.out (by kernel_rfl)) (fun _ _ _ h => h) (Or.inl ⟨by rfl, ?_⟩) hHeld ?_ ?_
   rotate_left
   ·
    rintro w' ⟨s0, s1⟩
    go_simp
    with_reducible rfl
   rotate_left
   ·
    simp only [aw]
    rfl
   refine pure_ (i := 3) (N := some 49) (v := ?_) (a' := ?_) (tm 13 15) rfl rfl (zak HT_.out (by kernel_rfl)) (fun _ _ _ h => h) (Or.inl ⟨by rfl, ?_⟩) ?_ ?_
   rotate_left
   ·
    intro w'
    go_simp
    with_reducible rfl
   rotate_left
   ·
    simp only [aw]
    rfl
   refine pure_ (i := 4) (N := some 50) (v := ?_) (a' := ?_) (tm 13 31) rfl rfl (zak HT_.out (by kernel_rfl)) (fun _ _ _ h => h) (Or.inl ⟨by rfl, ?_⟩) ?_ ?_
   rotate_left
   ·
    intro w'
    go_simp
    with_reducible rfl
   rotate_left
   ·
    simp only [aw]
    rfl
   refine pure_ (i := 5) (N := some 51) (v := ?_) (a' := ?_) (tm 13 63) rfl rfl (zak HT_.out (by kernel_rfl)) (fun _ _ _ h => h) (Or.inl ⟨by rfl, ?_⟩) ?_ ?_
   rotate_left
   ·
    intro w'
    go_simp
    with_reducible rfl
   rotate_left
   ·
    simp only [aw]
    rfl
   refine pure_ (i := 7) (N := some 53) (v := ?_) (a' := ?_) (tm 13 191) rfl rfl (zak HT_.out (by kernel_rfl)) (fun _ _ _ h => h) (Or.inl ⟨by rfl, ?_⟩) ?_ ?_
   rotate_left
   ·
    intro w'
    go_simp
    with_reducible rfl
   rotate_left
   ·
    simp only [aw]
    rfl
   refine take_ (i := 8) (N := some 54) (v := ?_) (a' := ?_) #[true, true, true, true, true, true, false, true, true, false, false, false, false] rfl rfl (zat HT_.out HW_.out (by kernel_rfl)) (fun _ _ _ h => h) (Or.inl ⟨by rfl, ?_⟩) hHeld ?_ ?_
   rotate_left
   ·
    rintro w' ⟨s0, s1⟩
    go_simp
    with_reducible rfl
   rotate_left
   ·
    simp only [aw]
    rfl
   refine one_ (i := 6) (N := some 52) (tm 13 511) rfl rfl (one_of HT_.out (by kernel_rfl)) (by decide) (fun K hK => ?_)
   refine goes_ Tryd.func38 (by kernel_rfl) rfl #[.int .i64 x5_1, .int .i64 10] (by rfl) rfl rfl (by (try simp only [List.map_toArray, List.map_cons, List.map_nil]); first | done | rfl | (simp only [List.length_drop, List.length_take]; rfl)) ?_
   with_reducible refine (strconv_FormatInt.calls x5_1 10 t130 _ ?side1 A25.out).mono ?_
   (case side1 => exact zba HT.out (by repeat with_reducible first | exact HB.out | apply zae | apply zac | apply zad | refine zah ?_ GE127.out))
   rintro e w28 ⟨rfl, hb⟩
   refine ⟨_, rfl, ?_⟩
   have n0_ := Aside0.mk (zaz (g := gb127) (o := .cells #[.string a0_0, .bool false] 88 (0, 0)) (by (with_reducible repeat (first | refine zai ?_ _ | refine zaj ?_ | refine zag ?_ _)); exact BK127.out) hb)
   have n1_ := Aside0.mk (zap (by repeat with_reducible first | exact HB.out | apply zae | apply zac | apply zad | refine zah ?_ GE127.out) hb)
   clear BK127
   clear HB
   have BK127 := n0_
   have HB := n1_
   clear n0_ n1_
   (try clear hb)
   (try clear hb2)
   (try clear hk)
   (try clear hi)
   refine hK.out _ _ ⟨(zaa BK127.out 0).trans rfl, (zaa BK127.out 1).trans rfl⟩ (fun hHeld => ?_)
   clear hK K
   refine norm_ (a' := ?_) ?_ ?_
   rotate_left
   ·
    show Act.put _ (some 52) _ = _
    simp only [aw]
    rfl
   refine pure_ (i := 9) (N := some 55) (v := ?_) (a' := ?_) (tm 13 1023) rfl rfl (zak HT_.out (by kernel_rfl)) (fun _ _ _ h => h) (Or.inl ⟨by rfl, ?_⟩) ?_ ?_
   rotate_left
   ·
    intro w'
    go_simp
    with_reducible rfl
   rotate_left
   ·
    simp only [aw]
    rfl
   refine pure_ (i := 10) (N := some 56) (v := ?_) (a' := ?_) (tm 13 2047) rfl rfl (zak HT_.out (by kernel_rfl)) (fun _ _ _ h => h) (Or.inl ⟨by rfl, ?_⟩) ?_ ?_
   rotate_left
   ·
    intro w'
    go_simp
    with_reducible rfl
   rotate_left
   ·
    simp only [aw]
    rfl
   refine pure_ (i := 11) (N := some 2) (v := ?_) (a' := ?_) (tm 13 4095) rfl rfl (zak HT_.out (by kernel_rfl)) (fun _ _ _ h => h) (Or.inl ⟨by rfl, ?_⟩) ?_ ?_
   rotate_left
   ·
    intro w'
    go_simp
    with_reducible rfl
   rotate_left
   ·
    simp only [aw]
    rfl
   refine pure_ (i := 12) (N := some 3) (v := ?_) (a' := ?_) (tm 13 8191) rfl rfl (zak HT_.out (by kernel_rfl)) (fun _ _ _ h => h) (Or.inl ⟨by rfl, ?_⟩) ?_ ?_
   rotate_left
   ·
    intro w'
    go_simp
    with_reducible rfl
   rotate_left
   ·
    simp only [aw]
    rfl
   refine done_ (done_of HT_.out (by kernel_rfl)) ?_
   try go_wp2
   go_ret2
   exact ⟨by first | rfl | (simp [zam, zan] <;> rfl) | (simp [*, zam, zan] <;> rfl), by repeat with_reducible first | exact HB.out | apply zae | apply zac | apply zad | refine zah ?_ GE127.out⟩

end Go.Proofs.YtdmlgligljagoaaDoor.PS

set_option linter.unusedVariables false
set_option linter.unusedSimpArgs false
namespace Go.Proofs.YtdmlgligljagoaaDoor
open Go.RowKit Go.Proofs.YtdmlgligljagoaaDoorW.PrintWords Go.Proofs.YtdmlgligljagoaaDoorW.PrintLast PS

/-- a reader in block g: the words that are left, and whether it is broken -/
def RD (wb w : World) (g : Nat) (l : List S88) (br : Bool) : Prop :=
  ∃ A c, w.heap[g]? = some (.cells #[.slice A l.length c, .bool br] 91 (0, 0)) ∧ l.length ≤ c ∧ (∀ W, KeepBut wb W g none → Kd.C k88 W A l.length l) ∧ KeepBut wb w g none
def nextV (q : Bool) (l : List S88) (br : Bool) : S88 × List S88 × Bool :=
  match l with
  | x :: r => if x.f1 = q then (x, r, br) else (z88, [], true)
  | [] => (z88, [], true)
theorem RD.put {wb W : World} {g : Nat} {A : Option Addr} {l : List S88} {c : Nat} {br : Bool} (hb : W.heap[g]? = some (.cells #[.slice A l.length c, .bool br] 91 (0, 0))) (hl : l.length ≤ c) (h : ∀ W, KeepBut wb W g none → Kd.C k88 W A l.length l) (hk : KeepBut wb W g none) : RD wb W g l br :=
  ⟨A, c, hb, hl, h, hk⟩
set_option maxRecDepth 100000 in
set_option maxHeartbeats 1000000 in
theorem next_ok (x : S88) (r : List S88) (q br : Bool) (g : Nat) (w0 wb w : World) (hB : Below w0.heap.size w0 w) (hG : w0.heap.size ≤ g) (hx : x.f1 = q) (h : RD wb w g (x :: r) br) :
    Calls Tryd.prog 57 #[.pointer (some ⟨g, 0, none⟩), .bool q] w fun e w' => e = .returned (.agg #[.string x.f0, .bool x.f1]) ∧ RD wb w' g r br ∧ KeepBut w w' g none ∧ Below w0.heap.size w0 w' := by
  have hB0 := Lib.hid hB
  clear hB
  obtain ⟨A, c, hb, hl, hr, hkb⟩ := h
  have hg := blk_lt hb
  obtain ⟨ad, e0, a0, a1⟩ := at_T88 (hr w hkb) 0 (by omega) (by simp)
  subst e0
  have h0 : w.cell? ⟨g, 0, none⟩ = some (.slice (some ad) (r.length + 1) c) := zaa hb 0
  have h1 : w.cell? ⟨g, 1, none⟩ = some (.bool br) := zaa hb 1
  have hf : ∀ j, w.frozen? ⟨g, j, none⟩ = false := fun j => zab hb j
  have b0 : w.cell? ad = some (.string x.f0) := by simpa [Addr.add, rd_T88] using a0
  have b1 : w.cell? ⟨ad.block, ad.off + 1, none⟩ = some (.bool x.f1) := by simpa [Addr.add, rd_T88] using a1
  obtain ⟨i0, hi, hz⟩ := Option.map_eq_some_iff.1 (show (Tryd.prog.info? 88).map (fun i => (i.zero, i.size, i.bytes)) = some (some (.agg #[.string ⟨#[]⟩, .bool false]), 2, 24) by kernel_rfl)
  simp only [Prod.mk.injEq] at hz
  have hc := cut_from (P := Tryd.prog) 84 88 .i64 Tryd.underlying84 hi 2 hz.2.1 (some ad) (r.length + 1) c 1 (by decide) (by omega)
  have hcr : ∀ W, KeepBut wb W g none → Kd.C k88 W (if c = 1 then some ad else (some ad).map (·.add (1 * 2))) r.length r := fun W hk => Kd.C_drop (m := 1) (c := c) (hr W hk) (by simp) hl
  change ∀ W : World, (Instr.slice 84 (.slice (some ad) (r.length + 1) c) (some (.int .i64 1)) none none).run Tryd.prog W = .ok (.slice (if c = 1 then some ad else (some ad).map (·.add (1 * 2))) r.length (c - 1)) W at hc
  generalize (if c = 1 then some ad else (some ad).map (·.add (1 * 2))) = A' at hc hcr
  have t1 : (x.f1 != q) = false := by simp [hx]
  have t2 : ((r.length : Int) + 1 == 0) = false := by rw [beq_eq_false_iff_ne]; omega
  have had : ad.block < w.heap.size := World.block_lt_of_cell? w _ b0
  have hne : ad.block ≠ g := Kd.foot_ne (d := k88) hr (by simp) (by decide)
  have HB := Lib.hid hb
  have HR := Lib.hid hcr
  clear hb hr hcr a0 a1 hi hz
  go_enter Tryd.func57, Tryd.ntmps57
  go_wp2
  refine bodyPost_ret (v := .agg #[.string x.f0, .bool q]) (by simp [results, Tryd.results57, go_sem]) rfl ⟨by rw [hx], ?_⟩
  have hk : KeepBut w (((w.setCell ⟨g, 0, none⟩ (.slice A' r.length (c - 1))).alloc (.cells #[.string x.f0, .bool q] 88)).alloc (.cells #[.string x.f0, .bool q] 88)) g none := keep_alloc (keep_alloc ((KeepBut.refl w g none).set_ 0 _) _) _
  exact ⟨RD.put (zag (zag (zar HB.out 0 _ rfl) _) _) (by simp at hl; omega) HR.out (hkb.trans hk (.inl rfl)), hk, ((hB0.out.setCell hG _).alloc (by simpa using hB0.out.size) _).alloc (by have := hB0.out.size; simp; omega) _⟩
theorem rd_no {w0 wb w : World} {g : Nat} (hB : Below w0.heap.size w0 w) (hG : w0.heap.size ≤ g) (hkb : KeepBut wb w g none) {A : Option Addr} {n c : Nat} {br : Bool} (hb : w.heap[g]? = some (.cells #[.slice A n c, .bool br] 91 (0, 0))) (o : Obj) :
    RD wb (((w.setCell ⟨g, 0, none⟩ (.slice none 0 0)).setCell ⟨g, 1, none⟩ (.bool true)).alloc o) g [] true ∧ KeepBut w (((w.setCell ⟨g, 0, none⟩ (.slice none 0 0)).setCell ⟨g, 1, none⟩ (.bool true)).alloc o) g none ∧ Below w0.heap.size w0 (((w.setCell ⟨g, 0, none⟩ (.slice none 0 0)).setCell ⟨g, 1, none⟩ (.bool true)).alloc o) :=
  ⟨⟨none, 0, zag (zar (zar hb 0 _ rfl) 1 _ rfl) _, Nat.le_refl _, fun W _ => Kd.C_nil _ W, keep_alloc ((hkb.set_ 0 _).set_ 1 _) _⟩, keep_alloc (((KeepBut.refl w g none).set_ 0 _).set_ 1 _) _, ((hB.setCell hG _).setCell hG _).alloc (by simpa using hB.size) _⟩
set_option maxRecDepth 100000 in
set_option maxHeartbeats 1000000 in
theorem next_no (l : List S88) (q br : Bool) (g : Nat) (w0 wb w : World) (hB : Below w0.heap.size w0 w) (hG : w0.heap.size ≤ g) (hx : l = [] ∨ ∃ x r, l = x :: r ∧ x.f1 ≠ q) (h : RD wb w g l br) :
    Calls Tryd.prog 57 #[.pointer (some ⟨g, 0, none⟩), .bool q] w fun e w' => e = .returned (.agg #[.string ⟨#[]⟩, .bool false]) ∧ RD wb w' g [] true ∧ KeepBut w w' g none ∧ Below w0.heap.size w0 w' := by
  have hB0 := Lib.hid hB
  clear hB
  obtain ⟨A, c, hb, hl, hr, hkb⟩ := h
  have hg := blk_lt hb
  have h0 : w.cell? ⟨g, 0, none⟩ = some (.slice A l.length c) := zaa hb 0
  have h1 : w.cell? ⟨g, 1, none⟩ = some (.bool br) := zaa hb 1
  have hf : ∀ j, w.frozen? ⟨g, j, none⟩ = false := fun j => zab hb j
  have HB := Lib.hid hb
  rcases hx with rfl | ⟨x, r, rfl, hx⟩
  · clear hb hr
    go_enter Tryd.func57, Tryd.ntmps57
    go_wp2
    refine bodyPost_ret (v := .agg #[.string ⟨#[]⟩, .bool false]) (by simp [results, Tryd.results57, go_sem]) rfl ⟨rfl, ?_⟩
    exact rd_no hB0.out hG hkb HB.out _
  · obtain ⟨ad, e0, a0, a1⟩ := at_T88 (hr w hkb) 0 (by omega) (by simp)
    subst e0
    have b1 : w.cell? ⟨ad.block, ad.off + 1, none⟩ = some (.bool x.f1) := by simpa [Addr.add, rd_T88] using a1
    have b0 : w.cell? ad = some (.string x.f0) := by simpa [Addr.add, rd_T88] using a0
    have hx' : x.f1 = !q := by cases hq : x.f1 <;> cases q <;> simp [hq] at hx ⊢
    rw [hx'] at b1
    clear hx hx'
    have t2 : ((r.length : Int) + 1 == 0) = false := by rw [beq_eq_false_iff_ne]; omega
    have had : ad.block < w.heap.size := World.block_lt_of_cell? w _ b0
    have hne : ad.block ≠ g := Kd.foot_ne (d := k88) hr (by simp) (by decide)
    clear hb hr a0 a1
    cases q
    all_goals
      go_enter Tryd.func57, Tryd.ntmps57
      go_wp2
      refine bodyPost_ret (v := .agg #[.string ⟨#[]⟩, .bool false]) (by simp [results, Tryd.results57, go_sem]) rfl ⟨rfl, ?_⟩
      exact rd_no hB0.out hG hkb HB.out _
theorem next_any (q : Bool) (l : List S88) (br : Bool) (g : Nat) (w0 wb w : World) (hB : Below w0.heap.size w0 w) (hG : w0.heap.size ≤ g) (h : RD wb w g l br) :
    Calls Tryd.prog 57 #[.pointer (some ⟨g, 0, none⟩), .bool q] w fun e w' => e = .returned (.agg #[.string (nextV q l br).1.f0, .bool (nextV q l br).1.f1]) ∧ RD wb w' g (nextV q l br).2.1 (nextV q l br).2.2 ∧ KeepBut w w' g none ∧ Below w0.heap.size w0 w' := by
  cases l with
  | nil => exact next_no [] q br g w0 wb w hB hG (.inl rfl) h
  | cons x r =>
    by_cases hx : x.f1 = q
    · have e : nextV q (x :: r) br = (x, r, br) := by simp [nextV, hx]
      rw [e]
      exact next_ok x r q br g w0 wb w hB hG hx h
    · have e : nextV q (x :: r) br = (z88, [], true) := by simp [nextV, hx]
      rw [e]
      exact next_no _ q br g w0 wb w hB hG (.inr ⟨x, r, rfl, hx⟩) h
theorem keep_below {w W W2 : World} {g : Nat} (h : KeepBut w W g none) (hb : Below W.heap.size W W2) : KeepBut w W2 g none := h.trans (KeepBut.of_below hb g none) (.inl rfl)
theorem RD.below {wb w W : World} {g : Nat} {l : List S88} {br : Bool} (h : RD wb w g l br) (hb : Below w.heap.size w W) : RD wb W g l br := by
  obtain ⟨A, c, h1, h2, h3, h4⟩ := h
  exact RD.put (zaz h1 hb) h2 h3 (keep_below h4 hb)
theorem fld_word (a : ByteArray) (b : Bool) (W : World) : (Instr.field 88 (.agg #[.string a, .bool b]) 0).run Tryd.prog W = .ok (.string a) W := by kernel_rfl
set_option maxRecDepth 100000 in
theorem quote_any (l : List S88) (br : Bool) (g : Nat) (w0 wb w : World) (hB : Below w0.heap.size w0 w) (hG : w0.heap.size ≤ g) (h : RD wb w g l br) :
    Calls Tryd.prog 42 #[.pointer (some ⟨g, 0, none⟩)] w fun e w' => e = .returned (.string (nextV true l br).1.f0) ∧ RD wb w' g (nextV true l br).2.1 (nextV true l br).2.2 ∧ KeepBut w w' g none ∧ Below w0.heap.size w0 w' := by
  have H := Lib.hid (next_any true l br g w0 wb w hB hG h)
  generalize nextV true l br = r at *
  clear h hB
  have hfl := fld_word r.1.f0 r.1.f1
  go_enter Tryd.func42, Tryd.ntmps42
  go_wp2_with fail
  refine H.out.mono ?_
  rintro e w1 ⟨rfl, h1, h2, h3⟩
  have H1 := Lib.hid h1
  have H2 := Lib.hid h2
  have H3 := Lib.hid h3
  clear h1 h2 h3
  go_wp2
  go_ret
  exact ⟨rfl, H1.out, H2.out, H3.out⟩
/-- a number of a word, as the machine tells it -/
def Num (x : S88) (n : Int) (ok : Bool) : Prop := ∃ k, script_number.f k x.f0 x.f1 = some (n, ok)
set_option maxRecDepth 100000 in
set_option maxHeartbeats 1000000 in
theorem number_any (l : List S88) (br ok : Bool) (n : Int) (g : Nat) (w0 wb w : World) (hB : Below w0.heap.size w0 w) (hG : w0.heap.size ≤ g) (hT : Tab w0) (hn : Num (nextV false l br).1 n ok) (h : RD wb w g l br) :
    Calls Tryd.prog 41 #[.pointer (some ⟨g, 0, none⟩)] w fun e w' => e = .returned (.int .i64 n) ∧ RD wb w' g (nextV false l br).2.1 ((nextV false l br).2.2 || !ok) ∧ KeepBut w w' g none ∧ Below w0.heap.size w0 w' := by
  obtain ⟨k, hk⟩ := hn
  have H := Lib.hid (next_any false l br g w0 wb w hB hG h)
  have HK := Lib.hid hk
  have HT := Lib.hid hT
  generalize nextV false l br = r at *
  clear h hk hT hB
  go_enter Tryd.func41, Tryd.ntmps41
  go_wp2_with fail
  refine H.out.mono ?_
  rintro e w1 ⟨rfl, ⟨A, c, hb, hl, hr, hkb⟩, h2, h3⟩
  have HKB := Lib.hid hkb
  clear hkb
  have HB := Lib.hid hb
  have HR := Lib.hid hr
  have H2 := Lib.hid h2
  have H3 := Lib.hid h3
  have HT1 := Lib.hid (zba HT.out h3)
  clear hb hr h2 h3
  go_wp2_with fail
  refine (script_number.calls k _ _ n ok w1 HT1.out HK.out).mono ?_
  rintro e w2 ⟨rfl, hb2⟩
  have h0 : w2.cell? ⟨g, 1, none⟩ = some (.bool r.2.2) := zaa (zaz HB.out hb2) 1
  have hf : ∀ j, w2.frozen? ⟨g, j, none⟩ = false := fun j => zab (zaz HB.out hb2) j
  have HB2 := Lib.hid (zaz HB.out hb2)
  have HK2 := Lib.hid (keep_below H2.out hb2)
  have HW2 := Lib.hid (H3.out.trans (hb2.mono H3.out.size))
  have HR2 := Lib.hid (KeepBut.of_below hb2 g none)
  clear hb2
  go_wp2
  all_goals go_ret
  · rename_i hq
    have hq' : r.2.2 = true := by simpa using hq
    rw [hq', Bool.true_or]
    exact ⟨rfl, RD.put (zar HB2.out 1 _ rfl) hl HR.out ((HKB.out.trans HR2.out (.inl rfl)).set_ 1 _), (HK2.out).set_ 1 _, HW2.out.setCell hG _⟩
  · rename_i hq
    have hq' : r.2.2 = false := by simpa using hq
    rw [hq', Bool.false_or]
    exact ⟨rfl, RD.put (zar HB2.out 1 _ rfl) hl HR.out ((HKB.out.trans HR2.out (.inl rfl)).set_ 1 _), (HK2.out).set_ 1 _, HW2.out.setCell hG _⟩
theorem done_any (l : List S88) (br : Bool) (g : Nat) (wb w : World) (h : RD wb w g l br) :
    Calls Tryd.prog 45 #[.pointer (some ⟨g, 0, none⟩)] w fun e w' => e = .returned (.bool (!br && l.isEmpty)) ∧ w = w' := by
  obtain ⟨A, c, hb, hl, hr, hkb⟩ := h
  have h0 : w.cell? ⟨g, 0, none⟩ = some (.slice A l.length c) := zaa hb 0
  have h1 : w.cell? ⟨g, 1, none⟩ = some (.bool br) := zaa hb 1
  clear hb hr
  cases l with
  | nil =>
    cases br
    all_goals
      go_enter Tryd.func45, Tryd.ntmps45
      go_wp2
      go_ret
      exact ⟨rfl, rfl⟩
  | cons x r =>
    have t2 : ((r.length : Int) + 1 == 0) = false := by rw [beq_eq_false_iff_ne]; omega
    cases br
    all_goals
      go_enter Tryd.func45, Tryd.ntmps45
      go_wp2
      go_ret
      exact ⟨rfl, rfl⟩
end Go.Proofs.YtdmlgligljagoaaDoor

namespace Go.Proofs.YtdmlgligljagoaaDoor.PS
open Go.RowKit Go.Proofs.YtdmlgligljagoaaDoorW.PrintWords Go.Proofs.YtdmlgligljagoaaDoorW.PrintLast Go.Proofs.YtdmlgligljagoaaDoorW.PrintMore
attribute [local go_sem] zbg zbh max_two min_two zbe zbf zbi zbj   -- for this text's walks alone
set_option linter.unusedVariables false
set_option linter.unusedSimpArgs false

/-! ### script_formOf: function 43 -/
def script_formOf.f (a0 : Int) : Option (ByteArray × ByteArray) := if a0 = 1 then (some ((⟨#[109, 97, 107, 101]⟩ : ByteArray), (⟨#[98]⟩ : ByteArray))) else (if a0 = 2 then (some ((⟨#[100, 114, 111, 112]⟩ : ByteArray), (⟨#[98]⟩ : ByteArray))) else (if a0 = 3 then (some ((⟨#[112, 117, 116]⟩ : ByteArray), (⟨#[98, 107, 100, 109]⟩ : ByteArray))) else (if a0 = 4 then (some ((⟨#[100, 101, 108, 101, 116, 101]⟩ : ByteArray), (⟨#[98, 107]⟩ : ByteArray))) else (if a0 = 5 then (some ((⟨#[114, 101, 109, 111, 118, 101]⟩ : ByteArray), (⟨#[98, 107, 115]⟩ : ByteArray))) else (if a0 = 6 then (some ((⟨#[103, 101, 116]⟩ : ByteArray), (⟨#[98, 107]⟩ : ByteArray))) else (if a0 = 7 then (some ((⟨#[118, 101, 114, 115, 105, 111, 110]⟩ : ByteArray), (⟨#[98, 107, 115]⟩ : ByteArray))) else (if a0 = 8 then (some ((⟨#[108, 105, 115, 116]⟩ : ByteArray), (⟨#[98, 107, 110]⟩ : ByteArray))) else (if a0 = 9 then (some ((⟨#[118, 101, 114, 115, 105, 111, 110, 115]⟩ : ByteArray), (⟨#[98, 107, 110]⟩ : ByteArray))) else (if a0 = 10 then (some ((⟨#[110, 97, 109, 101, 115]⟩ : ByteArray), (⟨#[]⟩ : ByteArray))) else (if a0 = 11 then (some ((⟨#[101, 120, 112, 111, 114, 116]⟩ : ByteArray), (⟨#[98]⟩ : ByteArray))) else (if a0 = 12 then (some ((⟨#[115, 105, 110, 99, 101]⟩ : ByteArray), (⟨#[98, 115]⟩ : ByteArray))) else (if a0 = 13 then (some ((⟨#[105, 109, 112, 111, 114, 116]⟩ : ByteArray), (⟨#[98, 100]⟩ : ByteArray))) else (if a0 = 14 then (some ((⟨#[97, 112, 112, 108, 121]⟩ : ByteArray), (⟨#[98, 100]⟩ : ByteArray))) else (if a0 = 15 then (some ((⟨#[115, 104, 101, 108, 102]⟩ : ByteArray), (⟨#[98, 110]⟩ : ByteArray))) else (if a0 = 16 then (some ((⟨#[112, 97, 116, 99, 104]⟩ : ByteArray), (⟨#[98, 110]⟩ : ByteArray))) else (if a0 = 17 then (some ((⟨#[102, 97, 108, 108]⟩ : ByteArray), (⟨#[110]⟩ : ByteArray))) else (if a0 = 18 then (some ((⟨#[99, 114, 97, 115, 104]⟩ : ByteArray), (⟨#[110, 108]⟩ : ByteArray))) else (some ((⟨#[]⟩ : ByteArray), (⟨#[]⟩ : ByteArray))))))))))))))))))))
set_option maxHeartbeats 8000000 in
set_option maxRecDepth 100000 in
theorem script_formOf.calls (a0 : Int) (r1 : ByteArray) (r2 : ByteArray) (w : World) (h : script_formOf.f a0 = some (r1, r2)) :
  Calls Tryd.prog 43 #[.int .i64 a0] w fun e w' => e = .returned (.agg #[.string r1, .string r2]) ∧ Below w.heap.size w w' := by
 have hc : (a0 = 1 ∨ a0 = 2 ∨ a0 = 3 ∨ a0 = 4 ∨ a0 = 5 ∨ a0 = 6 ∨ a0 = 7 ∨ a0 = 8 ∨ a0 = 9 ∨ a0 = 10 ∨ a0 = 11 ∨ a0 = 12 ∨ a0 = 13 ∨ a0 = 14 ∨ a0 = 15 ∨ a0 = 16 ∨ a0 = 17 ∨ a0 = 18) ∨ (a0 < 1 ∨ 18 < a0) := by omega
 rcases hc with hc | hc
 ·
  rcases hc with rfl | rfl | rfl | rfl | rfl | rfl | rfl | rfl | rfl | rfl | rfl | rfl | rfl | rfl | rfl | rfl | rfl | rfl
  all_goals
   cases h
   go_enter Tryd.func43, Tryd.ntmps43
   go_wp2
   exact bodyPost_ret (by simp [results, Tryd.results43, go_sem]) rfl ⟨rfl, (Below.refl _ _).alloc (Nat.le_refl _) _⟩
 have h1 : script_formOf.f a0 = some (⟨#[]⟩, ⟨#[]⟩) := by
  unfold script_formOf.f
  repeat rw [if_neg (by omega)]
 rw [h1] at h
 cases h
 clear h1
 have b1 : (a0 == 1) = false := beq_eq_false_iff_ne.2 (by omega)
 have b2 : (a0 == 2) = false := beq_eq_false_iff_ne.2 (by omega)
 have b3 : (a0 == 3) = false := beq_eq_false_iff_ne.2 (by omega)
 have b4 : (a0 == 4) = false := beq_eq_false_iff_ne.2 (by omega)
 have b5 : (a0 == 5) = false := beq_eq_false_iff_ne.2 (by omega)
 have b6 : (a0 == 6) = false := beq_eq_false_iff_ne.2 (by omega)
 have b7 : (a0 == 7) = false := beq_eq_false_iff_ne.2 (by omega)
 have b8 : (a0 == 8) = false := beq_eq_false_iff_ne.2 (by omega)
 have b9 : (a0 == 9) = false := beq_eq_false_iff_ne.2 (by omega)
 have b10 : (a0 == 10) = false := beq_eq_false_iff_ne.2 (by omega)
 have b11 : (a0 == 11) = false := beq_eq_false_iff_ne.2 (by omega)
 have b12 : (a0 == 12) = false := beq_eq_false_iff_ne.2 (by omega)
 have b13 : (a0 == 13) = false := beq_eq_false_iff_ne.2 (by omega)
 have b14 : (a0 == 14) = false := beq_eq_false_iff_ne.2 (by omega)
 have b15 : (a0 == 15) = false := beq_eq_false_iff_ne.2 (by omega)
 have b16 : (a0 == 16) = false := beq_eq_false_iff_ne.2 (by omega)
 have b17 : (a0 == 17) = false := beq_eq_false_iff_ne.2 (by omega)
 have b18 : (a0 == 18) = false := beq_eq_false_iff_ne.2 (by omega)
 go_enter Tryd.func43, Tryd.ntmps43
 go_wp2
 exact bodyPost_ret (by simp [results, Tryd.results43, go_sem]) rfl ⟨rfl, (Below.refl _ _).alloc (Nat.le_refl _) _⟩
end Go.Proofs.YtdmlgligljagoaaDoor.PS

set_option linter.unusedVariables false
set_option linter.unusedSimpArgs false
namespace Go.Proofs.YtdmlgligljagoaaDoor
open Go.RowKit Go.Proofs.YtdmlgligljagoaaDoorW.PrintWords PS

def stCells (s : S34) (v4 v7 : Value) : Array Value := #[.int .i64 s.f0, .string s.f1, .string s.f2, .string s.f3, v4, .int .i64 s.f5, .int .i64 s.f6, v7]
structure St (w0 wb w : World) (g b I : Nat) (f : ByteArray) (wx : World) (i : Nat) (s : S34) (v4 v7 : Value) (l : List S88) (br : Bool) : Prop where
  it : wx.heap[I]? = some (.stringIter f i)
  box : wx.heap[b]? = some (.cells (stCells s v4 v7) 34 (0, 0))
  res : wx.heap[w.heap.size]? = some (.cells (stCells z34 (.slice none 0 0) (.slice none 0 0)) 34 (0, 0))
  r4 : Kd.R k38 38 wx (I + 1) (fun _ => True) v4 s.f4
  r7 : Kd.R (Kd.int .i64) 3 wx (I + 1) (fun _ => True) v7 s.f7
  rd : RD wb wx g l br
  base : KeepBut wb w g none
  keep : KeepBut w wx g none
  below : Below w0.heap.size w0 wx
theorem R_same {α : Type} {d : Kd α} {e B : Nat} {w w1 : World} {v : Value} {xs : List α} (h : d.R e w B (fun _ => True) v xs) (hm : ∀ k, B ≤ k → k < w.heap.size → w1.heap[k]? = w.heap[k]?) : d.R e w1 B (fun _ => True) v xs :=
  Kd.R_mono (Kd.R_step (Kd.R_bound h) (fun k hk hlt => hm k hk.2.1 hlt)) (fun _ _ => trivial)
section
variable {w0 wb w wx W : World} {g b I i : Nat} {f : ByteArray} {s s' : S34} {v4 v7 : Value} {l l' : List S88} {br br' : Bool}
/-- behind a call that turns the reader alone -/
theorem St.call (h : St w0 wb w g b I f wx i s v4 v7 l br) (hgw : g < w.heap.size) (hwb : w.heap.size < b) (hbI : b < I) (hk : KeepBut wx W g none) (hr : RD wb W g l' br') (hb : Below w0.heap.size w0 W) : St w0 wb w g b I f W i s v4 v7 l' br' :=
  ⟨(hk.2 I (blk_lt h.it) (by omega) (by simp)).trans h.it, (hk.2 b (blk_lt h.box) (by omega) (by simp)).trans h.box, (hk.2 _ (blk_lt h.res) (by omega) (by simp)).trans h.res, R_same h.r4 (fun k h1 h2 => hk.2 k h2 (by omega) (by simp)), R_same h.r7 (fun k h1 h2 => hk.2 k h2 (by omega) (by simp)), hr, h.base, h.keep.trans hk (.inl rfl), hb⟩
/-- behind a call that makes memory alone -/
theorem St.made (h : St w0 wb w g b I f wx i s v4 v7 l br) (hgw : g < w.heap.size) (hwb : w.heap.size < b) (hbI : b < I) (hb : Below wx.heap.size wx W) : St w0 wb w g b I f W i s v4 v7 l br :=
  h.call hgw hwb hbI (KeepBut.of_below hb g none) (h.rd.below hb) (h.below.trans (hb.mono h.below.size))
theorem rd_other {wb w W : World} {g : Nat} {l : List S88} {br : Bool} (h : RD wb w g l br) (hg : W.heap[g]? = w.heap[g]?) (hk : KeepBut wb W g none) : RD wb W g l br := by
  obtain ⟨A, c, h1, h2, h3, _⟩ := h
  exact RD.put (hg.trans h1) h2 h3 hk
/-- a field is written -/
theorem St.put (h : St w0 wb w g b I f wx i s v4 v7 l br) (hgw : g < w.heap.size) (hwb : w.heap.size < b) (hbI : b < I) (h0 : w0.heap.size ≤ w.heap.size) (j : Nat) (u : Value) (e : (stCells s v4 v7).setIfInBounds j u = stCells s' v4 v7) (e4 : s'.f4 = s.f4) (e7 : s'.f7 = s.f7) :
    St w0 wb w g b I f (wx.setCell ⟨b, j, none⟩ u) i s' v4 v7 l br := by
  have ho : ∀ k, k ≠ b → (wx.setCell ⟨b, j, none⟩ u).heap[k]? = wx.heap[k]? := fun k hk => Below.heap_setCell wx ⟨b, j, none⟩ u k hk
  have hk : KeepBut w (wx.setCell ⟨b, j, none⟩ u) g none := keep_far h.keep (p := ⟨b, j, none⟩) (Nat.le_of_lt hwb) u
  refine ⟨(ho I (by omega)).trans h.it, zar h.box j u e, (ho _ (by omega)).trans h.res, ?_, ?_, rd_other h.rd (ho g (by omega)) (h.base.trans hk (.inl rfl)), h.base, hk, h.below.setCell (by simp; omega) u⟩
  · rw [e4]; exact R_same h.r4 (fun k h1 _ => ho k (by omega))
  · rw [e7]; exact R_same h.r7 (fun k h1 _ => ho k (by omega))
/-- the iterator goes on -/
theorem St.next (h : St w0 wb w g b I f wx i s v4 v7 l br) (hgw : g < w.heap.size) (hwb : w.heap.size < b) (hbI : b < I) (h0 : w0.heap.size ≤ w.heap.size) (n : Nat) :
    St w0 wb w g b I f (wx.iterAt I f n) n s v4 v7 l br := by
  have ho : ∀ k, k ≠ I → (wx.iterAt I f n).heap[k]? = wx.heap[k]? := fun k hk => Lib.iterAt_other wx I k f n hk
  have hk : KeepBut w (wx.iterAt I f n) g none := ⟨by rw [Lib.iterAt_size]; exact h.keep.1, fun k h1 h2 h3 => (ho k (by omega)).trans (h.keep.2 k h1 h2 h3)⟩
  refine ⟨Lib.iterAt_heap wx I f i n h.it, (ho b (by omega)).trans h.box, (ho _ (by omega)).trans h.res, R_same h.r4 (fun k h1 _ => ho k (by omega)), R_same h.r7 (fun k h1 _ => ho k (by omega)), rd_other h.rd (ho g (by omega)) (h.base.trans hk (.inl rfl)), h.base, hk, ?_⟩
  exact ⟨h.below.os, h.below.tape, h.below.output, by rw [Lib.iterAt_size]; exact h.below.size, fun k hk => (ho k (by omega)).trans (h.below.block k hk)⟩
/-- what was appended to the pairs, or to the numbers, is stored -/
theorem St.app4 {p : S38} {v1 : Value} (h : St w0 wb w g b I f wx i s v4 (.slice none 0 0) l br) (hgw : g < w.heap.size) (hwb : w.heap.size < b) (hbI : b < I) (h0 : w0.heap.size ≤ w.heap.size) (h7 : s.f7 = []) (hR : Kd.R k38 38 W (I + 1) (fun _ => True) v1 (s.f4 ++ [p])) (hB : Below (I + 1) wx W) :
    St w0 wb w g b I f (W.setCell ⟨b, 4, none⟩ v1) i { s with f4 := s.f4 ++ [p] } v1 (.slice none 0 0) l br := by
  have ho : ∀ k, k ≠ b → k < I + 1 → (W.setCell ⟨b, 4, none⟩ v1).heap[k]? = wx.heap[k]? := fun k hk hlt => (Below.heap_setCell W ⟨b, 4, none⟩ v1 k hk).trans (hB.block k hlt)
  have hk : KeepBut w (W.setCell ⟨b, 4, none⟩ v1) g none := ⟨Nat.le_trans h.keep.1 (by simpa [World.setCell] using hB.size), fun k h1 h2 h3 => (ho k (by omega) (by omega)).trans (h.keep.2 k h1 h2 h3)⟩
  refine ⟨(ho I (by omega) (by omega)).trans h.it, zar ((hB.block b (by omega)).trans h.box) 4 v1 rfl, (ho _ (by omega) (by omega)).trans h.res, ?_, ?_, rd_other h.rd (ho g (by omega) (by omega)) (h.base.trans hk (.inl rfl)), h.base, hk, (h.below.trans (hB.mono (by omega))).setCell (by simp; omega) v1⟩
  · exact R_same hR (fun k h1 _ => Below.heap_setCell W ⟨b, 4, none⟩ v1 k (by simp; omega))
  · show Kd.R _ _ _ _ _ _ s.f7
    rw [h7]; exact Kd.R_nil _ _ _ _ _
theorem St.app7 {p : Int} {v1 : Value} (h : St w0 wb w g b I f wx i s (.slice none 0 0) v7 l br) (hgw : g < w.heap.size) (hwb : w.heap.size < b) (hbI : b < I) (h0 : w0.heap.size ≤ w.heap.size) (h4 : s.f4 = []) (hR : Kd.R (Kd.int .i64) 3 W (I + 1) (fun _ => True) v1 (s.f7 ++ [p])) (hB : Below (I + 1) wx W) :
    St w0 wb w g b I f (W.setCell ⟨b, 7, none⟩ v1) i { s with f7 := s.f7 ++ [p] } (.slice none 0 0) v1 l br := by
  have ho : ∀ k, k ≠ b → k < I + 1 → (W.setCell ⟨b, 7, none⟩ v1).heap[k]? = wx.heap[k]? := fun k hk hlt => (Below.heap_setCell W ⟨b, 7, none⟩ v1 k hk).trans (hB.block k hlt)
  have hk : KeepBut w (W.setCell ⟨b, 7, none⟩ v1) g none := ⟨Nat.le_trans h.keep.1 (by simpa [World.setCell] using hB.size), fun k h1 h2 h3 => (ho k (by omega) (by omega)).trans (h.keep.2 k h1 h2 h3)⟩
  refine ⟨(ho I (by omega) (by omega)).trans h.it, zar ((hB.block b (by omega)).trans h.box) 7 v1 rfl, (ho _ (by omega) (by omega)).trans h.res, ?_, ?_, rd_other h.rd (ho g (by omega) (by omega)) (h.base.trans hk (.inl rfl)), h.base, hk, (h.below.trans (hB.mono (by omega))).setCell (by simp; omega) v1⟩
  · show Kd.R _ _ _ _ _ _ s.f4
    rw [h4]; exact Kd.R_nil _ _ _ _ _
  · exact R_same hR (fun k h1 _ => Below.heap_setCell W ⟨b, 7, none⟩ v1 k (by simp; omega))
/-- what is told at the end, where the result's block alone was written -/
theorem St.ends (h : St w0 wb w g b I f wx i s v4 v7 l br) (hgw : g < w.heap.size) (hwI : w.heap.size ≤ I) (hz : wx.heap.size ≤ W.heap.size) (ho : ∀ k, k ≠ w.heap.size → W.heap[k]? = wx.heap[k]?) :
    Kd.R k38 38 W w.heap.size (fun _ => True) v4 s.f4 ∧ Kd.R (Kd.int .i64) 3 W w.heap.size (fun _ => True) v7 s.f7 ∧ RD wb W g l br ∧ KeepBut w W g none := by
  have hk : KeepBut w W g none := ⟨Nat.le_trans h.keep.1 hz, fun k h1 h2 h3 => (ho k (by omega)).trans (h.keep.2 k h1 h2 h3)⟩
  exact ⟨Kd.R_lower (R_same h.r4 (fun k h1 _ => ho k (by omega))) (by omega), Kd.R_lower (R_same h.r7 (fun k h1 _ => ho k (by omega))) (by omega), rd_other h.rd (ho g (by omega)) (h.base.trans hk (.inl rfl)), hk⟩
theorem St.ends8 (h : St w0 wb w g b I f wx i s v4 v7 l br) (hgw : g < w.heap.size) (hwI : w.heap.size ≤ I) (h0 : w0.heap.size ≤ w.heap.size) (u0 u1 u2 u3 u4 u5 u6 u7 : Value) :
    let W := (World.setCell (World.setCell (World.setCell (World.setCell (World.setCell (World.setCell (World.setCell (World.setCell wx ⟨w.heap.size, 0, none⟩ u0) ⟨w.heap.size, 1, none⟩ u1) ⟨w.heap.size, 2, none⟩ u2) ⟨w.heap.size, 3, none⟩ u3) ⟨w.heap.size, 4, none⟩ u4) ⟨w.heap.size, 5, none⟩ u5) ⟨w.heap.size, 6, none⟩ u6) ⟨w.heap.size, 7, none⟩ u7)
    Kd.R k38 38 W w.heap.size (fun _ => True) v4 s.f4 ∧ Kd.R (Kd.int .i64) 3 W w.heap.size (fun _ => True) v7 s.f7 ∧ RD wb W g l br ∧ KeepBut w W g none ∧ Below w0.heap.size w0 W := by
  intro W
  have hB : Below w0.heap.size w0 W := (((((((h.below.setCell (p := ⟨w.heap.size, 0, none⟩) h0 u0).setCell (p := ⟨w.heap.size, 1, none⟩) h0 u1).setCell (p := ⟨w.heap.size, 2, none⟩) h0 u2).setCell (p := ⟨w.heap.size, 3, none⟩) h0 u3).setCell (p := ⟨w.heap.size, 4, none⟩) h0 u4).setCell (p := ⟨w.heap.size, 5, none⟩) h0 u5).setCell (p := ⟨w.heap.size, 6, none⟩) h0 u6).setCell (p := ⟨w.heap.size, 7, none⟩) h0 u7
  have hz : wx.heap.size ≤ W.heap.size := by simp [W, World.setCell]
  have ho : ∀ k, k ≠ w.heap.size → W.heap[k]? = wx.heap[k]? := fun k hk =>
    (Below.heap_setCell _ ⟨w.heap.size, 7, none⟩ u7 k hk).trans ((Below.heap_setCell _ ⟨w.heap.size, 6, none⟩ u6 k hk).trans ((Below.heap_setCell _ ⟨w.heap.size, 5, none⟩ u5 k hk).trans ((Below.heap_setCell _ ⟨w.heap.size, 4, none⟩ u4 k hk).trans
      ((Below.heap_setCell _ ⟨w.heap.size, 3, none⟩ u3 k hk).trans ((Below.heap_setCell _ ⟨w.heap.size, 2, none⟩ u2 k hk).trans ((Below.heap_setCell _ ⟨w.heap.size, 1, none⟩ u1 k hk).trans (Below.heap_setCell wx ⟨w.heap.size, 0, none⟩ u0 k hk)))))))
  obtain ⟨a, b, c, d⟩ := h.ends hgw hwI hz ho
  exact ⟨a, b, c, d, hB⟩
end
/-- what a letter of a form does -/
def numV (x : S88) : Int × Bool :=
  let t := Lib.trimPrefix x.f0.data.toList [45]
  let rec go : List UInt8 → Nat → Int → Option Int
    | [], _, n => some n
    | c :: r, i, n => if c.toNat < 48 ∨ 57 < c.toNat ∨ 18 < i then none else go r (i + 1) (wrap64 (wrap64 (10 * n) - ((c.toNat : Int) - 48)))
  match go t 0 0 with
  | none => (0, false)
  | some n => if t.length = x.f0.data.toList.length then (wrap64 (-n), !x.f1 && (Lib.itoa (wrap64 (-n)) == x.f0.data.toList)) else (n, !x.f1 && (Lib.itoa n == x.f0.data.toList))
def numN (l : List S88) (br : Bool) : Int × List S88 × Bool :=
  ((numV (nextV false l br).1).1, (nextV false l br).2.1, (nextV false l br).2.2 || !(numV (nextV false l br).1).2)
theorem nextV_hit {q : Bool} {x : S88} (r : List S88) (br : Bool) (h : x.f1 = q) : nextV q (x :: r) br = (x, r, br) := by simp [nextV, h]
theorem nextV_miss {q : Bool} {x : S88} (r : List S88) (br : Bool) (h : ¬ x.f1 = q) : nextV q (x :: r) br = (z88, [], true) := by simp [nextV, h]
theorem nextV_len (q : Bool) (l : List S88) (br : Bool) (h : l ≠ []) : (nextV q l br).2.1.length < l.length := by
  cases l with
  | nil => exact absurd rfl h
  | cons x r =>
    unfold nextV
    by_cases hx : x.f1 = q
    · simp [hx]
    · simp [hx]
theorem nextV_le (q : Bool) (l : List S88) (br : Bool) : (nextV q l br).2.1.length ≤ l.length := by
  cases l with
  | nil => simp [nextV]
  | cons x r => exact Nat.le_of_lt (nextV_len q _ br (by simp))
def metaV : List S88 → Bool → List S38 × Bool
  | l, br => if h : l = [] then ([], br) else
    let a := nextV true l br
    let b := nextV true a.2.1 a.2.2
    let r := metaV b.2.1 b.2.2
    (⟨a.1.f0, b.1.f0⟩ :: r.1, r.2)
termination_by l => l.length
decreasing_by exact Nat.lt_of_le_of_lt (nextV_le _ _ _) (nextV_len _ _ _ h)
def keptV : List S88 → Bool → List Int × Bool
  | l, br => if h : l = [] then ([], br) else
    let a := numN l br
    let r := keptV a.2.1 a.2.2
    (a.1 :: r.1, r.2)
termination_by l => l.length
decreasing_by exact nextV_len _ _ _ h
def applV (c : Nat) (s : S34) (l : List S88) (br : Bool) : S34 × List S88 × Bool :=
  if c = 98 then ({ s with f1 := (nextV true l br).1.f0 }, (nextV true l br).2)
  else if c = 107 then ({ s with f2 := (nextV true l br).1.f0 }, (nextV true l br).2)
  else if c = 100 then ({ s with f3 := (nextV true l br).1.f0 }, (nextV true l br).2)
  else if c = 115 then ({ s with f5 := (numN l br).1 }, (numN l br).2)
  else if c = 110 then ({ s with f6 := (numN l br).1 }, (numN l br).2)
  else if c = 109 then ({ s with f4 := s.f4 ++ (metaV l br).1 }, [], (metaV l br).2)
  else ({ s with f7 := s.f7 ++ (keptV l br).1 }, [], (keptV l br).2)
def stepsV : List UInt8 → S34 → List S88 → Bool → S34 × List S88 × Bool
  | [], s, l, br => (s, l, br)
  | c :: r, s, l, br => stepsV r (applV c.toNat s l br).1 (applV c.toNat s l br).2.1 (applV c.toNat s l br).2.2
end Go.Proofs.YtdmlgligljagoaaDoor

set_option linter.unusedVariables false
set_option linter.unusedSimpArgs false
namespace Go.Proofs.YtdmlgligljagoaaDoor
open Go.RowKit Go.Proofs.YtdmlgligljagoaaDoorW.PrintWords PS

theorem hasPre (l m : List UInt8) : stringslite_HasPrefix.f (bs l) (bs m) = some (Lib.hasPrefix l m) := by
  unfold stringslite_HasPrefix.f
  rw [zao, zao, Int.toNat_natCast, bs_extract, zbo, zbo, List.drop_zero, Nat.sub_zero]
  unfold Lib.hasPrefix
  by_cases h : m.length ≤ l.length
  · rw [if_pos (by omega), if_pos (by omega), if_pos (by omega)]
    congr 1
    rw [Bool.eq_iff_iff, beq_iff_eq, List.isPrefixOf_iff_prefix, List.prefix_iff_eq_take]
    exact eq_comm
  · rw [if_neg (by omega)]
    congr 1
    symm
    rw [Bool.eq_false_iff]
    intro e
    exact h (List.isPrefixOf_iff_prefix.1 e).length_le
theorem trimPre (l m : List UInt8) : strings_TrimPrefix.f (bs l) (bs m) = some (bs (Lib.trimPrefix l m)) := by
  unfold strings_TrimPrefix.f stringslite_TrimPrefix.f
  rw [hasPre, Option.bind_some]
  unfold Lib.trimPrefix
  by_cases h : Lib.hasPrefix l m = true
  · have h2 := (List.isPrefixOf_iff_prefix.1 h).length_le
    rw [if_pos h, if_pos h, zao, zao, if_pos (by omega), if_pos (by omega), Option.bind_some, Int.toNat_natCast, bs_extract, take_drop_len]
  · rw [if_neg h, if_neg h, Option.bind_some]
theorem bt_bs (l : List UInt8) (i : Nat) (h : i < l.length) : bt (bs l) (i : Int) = ((l[i]'h).toNat : Int) := by
  unfold bt
  rw [dif_pos (by rw [zao]; simpa using h)]
  rfl
theorem bs_self (s : ByteArray) : bs s.data.toList = s := (bs_of s).symm
theorem wrap_in (n : Int) : -9223372036854775808 ≤ wrap64 n ∧ wrap64 n ≤ 9223372036854775807 := by unfold wrap64; omega
theorem w64n {n : Nat} (h : n ≤ 9223372036854775807) : wrap64 (n : Int) = n := by unfold wrap64; omega
theorem fmt (n : Int) (h : -9223372036854775808 ≤ n ∧ n ≤ 9223372036854775807) : strconv_FormatInt.f n 10 = some (bs (Lib.itoa n)) := by
  unfold strconv_FormatInt.f
  rw [if_pos ⟨rfl, h⟩]
theorem num_go (x : S88) (t : List UInt8) (ht : t.length ≤ 4611686018427387904) (hx : x.f0.size ≤ 4611686018427387904) :
    ∀ d i n, i + d = t.length → -9223372036854775808 ≤ n ∧ n ≤ 9223372036854775807 → ∃ k, script_number.l0 k (bs t) n (t.length : Int) (i : Int) x.f0 x.f1 =
      some (match numV.go (t.drop i) i n with
        | none => (0, false)
        | some n => if t.length = x.f0.data.toList.length then (wrap64 (-n), !x.f1 && (Lib.itoa (wrap64 (-n)) == x.f0.data.toList)) else (n, !x.f1 && (Lib.itoa n == x.f0.data.toList))) := by
  have hz : x.f0.size = x.f0.data.toList.length := Lib.size_eq _
  intro d
  induction d with
  | zero =>
    intro i n hi hn
    obtain rfl : i = t.length := by omega
    refine ⟨1, ?_⟩
    rw [script_number.l0, if_neg (by simp), List.drop_length, numV.go, zao]
    dsimp only
    by_cases h : t.length = x.f0.data.toList.length
    · rw [if_pos (by omega), if_pos h]
      cases x.f1
      · rw [if_neg (by simp), fmt _ (wrap_in _), Option.bind_some, zbo, Lib.toList_data]; rfl
      · rw [if_pos rfl]; rfl
    · rw [if_neg (by omega), if_neg h]
      cases x.f1
      · rw [if_neg (by simp), fmt _ hn, Option.bind_some, zbo, Lib.toList_data]; rfl
      · rw [if_pos rfl]; rfl
  | succ d ih =>
    intro i n hi hn
    have hlt : i < t.length := by omega
    rw [List.drop_eq_getElem_cons hlt, numV.go]
    by_cases h : (t[i]).toNat < 48 ∨ 57 < (t[i]).toNat ∨ 18 < i
    · refine ⟨1, ?_⟩
      rw [script_number.l0, if_pos (by omega), if_pos (by omega), if_pos (by rw [zao]; omega), bt_bs t i hlt, if_pos h]
      dsimp only
      by_cases h1 : ((t[i]).toNat : Int) < 48
      · rw [if_pos h1]
      · rw [if_neg h1]
        by_cases h2 : ((t[i]).toNat : Int) > 57
        · rw [if_pos h2]
        · rw [if_neg h2, if_pos (by omega)]
    · obtain ⟨k, hk⟩ := ih (i + 1) (wrap64 (wrap64 (10 * n) - (((t[i]).toNat : Int) - 48))) (by omega) (wrap_in _)
      refine ⟨k + 1, ?_⟩
      rw [script_number.l0, if_pos (by omega), if_pos (by omega), if_pos (by rw [zao]; omega), bt_bs t i hlt, if_neg h, if_neg (by omega), if_neg (by omega), if_neg (by omega), show (((t[i]).toNat : Int) - 48) % 256 = ((t[i]).toNat : Int) - 48 by omega, show ((i : Int) + 1) = ((i + 1 : Nat) : Int) by omega, w64n (by omega), hk]
theorem num_is (x : S88) (hx : x.f0.size ≤ 4611686018427387904) : Num x (numV x).1 (numV x).2 := by
  have hz : x.f0.size = x.f0.data.toList.length := Lib.size_eq _
  have ht : (Lib.trimPrefix x.f0.data.toList [45]).length ≤ 4611686018427387904 := by
    unfold Lib.trimPrefix
    split
    · rw [List.length_drop]; omega
    · omega
  obtain ⟨k, hk⟩ := num_go x _ ht hx (Lib.trimPrefix x.f0.data.toList [45]).length 0 0 (by omega) (by omega)
  refine ⟨k, ?_⟩
  unfold script_number.f
  have h1 : strings_TrimPrefix.f x.f0 (⟨#[45]⟩ : ByteArray) = some (bs (Lib.trimPrefix x.f0.data.toList [45])) := by
    have := trimPre x.f0.data.toList [45]
    rwa [bs_self] at this
  rw [h1, Option.bind_some, zao]
  rw [List.drop_zero] at hk
  refine hk.trans ?_
  unfold numV
  rfl
end Go.Proofs.YtdmlgligljagoaaDoor

set_option linter.unusedVariables false
set_option linter.unusedSimpArgs false
namespace Go.Proofs.YtdmlgligljagoaaDoor
open Go.RowKit Go.Proofs.YtdmlgligljagoaaDoorW.PrintWords PS

theorem fld_form (a b : ByteArray) (W : World) : (Instr.field 94 (.agg #[.string a, .string b]) 1).run Tryd.prog W = .ok (.string b) W := by kernel_rfl
structure WB (l : List S88) : Prop where
  len : l.length ≤ 4294967296
  all : ∀ x ∈ l, x.f0.size ≤ 4611686018427387904
theorem WB.next {l : List S88} (h : WB l) (q br : Bool) : WB (nextV q l br).2.1 := by
  cases l with
  | nil => exact ⟨by simp [nextV], fun x hx => by simp [nextV] at hx⟩
  | cons x r =>
    have h1 := h.len
    simp only [List.length_cons] at h1
    by_cases hx : x.f1 = q
    · rw [nextV_hit r br hx]; exact ⟨by dsimp only; omega, fun y hy => h.all y (List.mem_cons_of_mem _ hy)⟩
    · rw [nextV_miss r br hx]; exact ⟨by simp, fun x hx => by simp at hx⟩
theorem WB.word {l : List S88} (h : WB l) (q br : Bool) : (nextV q l br).1.f0.size ≤ 4611686018427387904 := by
  have hz : z88.f0.size ≤ 4611686018427387904 := by decide
  cases l with
  | nil => exact hz
  | cons x r =>
    by_cases hx : x.f1 = q
    · rw [nextV_hit r br hx]; exact h.all x List.mem_cons_self
    · rw [nextV_miss r br hx]; exact hz
theorem numN_any (l : List S88) (br : Bool) (g : Nat) (w0 wb w : World) (hB : Below w0.heap.size w0 w) (hG : w0.heap.size ≤ g) (hT : Tab w0) (hW : WB l) (h : RD wb w g l br) :
    Calls Tryd.prog 41 #[.pointer (some ⟨g, 0, none⟩)] w fun e w' => e = .returned (.int .i64 (numN l br).1) ∧ RD wb w' g (numN l br).2.1 (numN l br).2.2 ∧ KeepBut w w' g none ∧ Below w0.heap.size w0 w' :=
  number_any l br _ _ g w0 wb w hB hG hT (num_is _ (hW.word false br)) h
theorem R_C {α : Type} {d : Kd α} {e B : Nat} {w : World} {v : Value} {xs : List α} {ok : Nat → Prop} (h : d.R e w B ok v xs) : ∃ A c, v = .slice A xs.length c := Kd.R_slice h
def Letters (f : ByteArray) : Prop := ∀ j (h : j < f.size), ((f[j]'h).toNat = 98 ∨ (f[j]'h).toNat = 107 ∨ (f[j]'h).toNat = 100 ∨ (f[j]'h).toNat = 115 ∨ (f[j]'h).toNat = 110) ∨ (((f[j]'h).toNat = 109 ∨ (f[j]'h).toNat = 108) ∧ j + 1 = f.size)
theorem stepsV_cons (f : ByteArray) (i : Nat) (h : i < f.size) (s : S34) (l : List S88) (br : Bool) : stepsV (f.data.toList.drop i) s l br = stepsV (f.data.toList.drop (i + 1)) (applV (f[i]'h).toNat s l br).1 (applV (f[i]'h).toNat s l br).2.1 (applV (f[i]'h).toNat s l br).2.2 := by
  rw [List.drop_eq_getElem_cons (show i < f.data.toList.length by simpa using h), stepsV]
  rfl
theorem RD.keep {wb w : World} {g : Nat} {l : List S88} {br : Bool} (h : RD wb w g l br) : KeepBut wb w g none := by
  obtain ⟨A, c, h1, h2, h3, h4⟩ := h
  exact h4
theorem St.start {w0 wb w w1 : World} {g : Nat} (kind : Int) (f : ByteArray) {l : List S88} {br : Bool} (hB : Below w0.heap.size w0 w) (hg : g < w.heap.size) (hr : RD wb w g l br)
    (hb : Below ((w.alloc (.cells (stCells z34 (.slice none 0 0) (.slice none 0 0)) 34)).alloc (.cells (stCells ⟨kind, ⟨#[]⟩, ⟨#[]⟩, ⟨#[]⟩, [], 0, 0, []⟩ (.slice none 0 0) (.slice none 0 0)) 34)).heap.size ((w.alloc (.cells (stCells z34 (.slice none 0 0) (.slice none 0 0)) 34)).alloc (.cells (stCells ⟨kind, ⟨#[]⟩, ⟨#[]⟩, ⟨#[]⟩, [], 0, 0, []⟩ (.slice none 0 0) (.slice none 0 0)) 34)) w1) :
    St w0 wb w g (w.heap.size + 1) w1.heap.size f (w1.iter f 0) 0 ⟨kind, ⟨#[]⟩, ⟨#[]⟩, ⟨#[]⟩, [], 0, 0, []⟩ (.slice none 0 0) (.slice none 0 0) l br := by
  have h2 : Below (w.heap.size + 2) ((w.alloc (.cells (stCells z34 (.slice none 0 0) (.slice none 0 0)) 34)).alloc (.cells (stCells ⟨kind, ⟨#[]⟩, ⟨#[]⟩, ⟨#[]⟩, [], 0, 0, []⟩ (.slice none 0 0) (.slice none 0 0)) 34)) (w1.iter f 0) := by
    have := hb.alloc hb.size (.stringIter f 0)
    simpa [World.iter] using this
  have hw : Below w.heap.size w (w1.iter f 0) := ((((Below.refl w.heap.size w).alloc (Nat.le_refl _) _).alloc (by simp) _)).trans (h2.mono (by omega))
  refine ⟨World.iter_heap _ _ _, (h2.block _ (by omega)).trans ?_, (h2.block _ (by omega)).trans ?_, Kd.R_nil _ _ _ _ _, Kd.R_nil _ _ _ _ _, hr.below hw, hr.keep, KeepBut.of_below hw g none, hB.trans (hw.mono hB.size)⟩
  · simpa using blk_new (w.alloc (.cells (stCells z34 (.slice none 0 0) (.slice none 0 0)) 34)) (.cells (stCells ⟨kind, ⟨#[]⟩, ⟨#[]⟩, ⟨#[]⟩, [], 0, 0, []⟩ (.slice none 0 0) (.slice none 0 0)) 34)
  · exact zag (blk_new _ _) _
theorem St.quote {w0 wb w W : World} {g b I i : Nat} {f : ByteArray} {s : S34} {v4 v7 : Value} {l : List S88} {br : Bool} (h : St w0 wb w g b I f W i s v4 v7 l br) (hG : w0.heap.size ≤ g) (hgw : g < w.heap.size) (hwb : w.heap.size < b) (hbI : b < I) :
    Calls Tryd.prog 42 #[.pointer (some ⟨g, 0, none⟩)] W fun e w' => e = .returned (.string (nextV true l br).1.f0) ∧ St w0 wb w g b I f w' i s v4 v7 (nextV true l br).2.1 (nextV true l br).2.2 := by
  refine (quote_any l br g w0 wb W h.below hG h.rd).mono ?_
  rintro e w' ⟨rfl, r1, r2, r3⟩
  exact ⟨rfl, h.call hgw hwb hbI r2 r1 r3⟩
theorem St.number {w0 wb w W : World} {g b I i : Nat} {f : ByteArray} {s : S34} {v4 v7 : Value} {l : List S88} {br : Bool} (h : St w0 wb w g b I f W i s v4 v7 l br) (hG : w0.heap.size ≤ g) (hT : Tab w0) (hW : WB l) (hgw : g < w.heap.size) (hwb : w.heap.size < b) (hbI : b < I) :
    Calls Tryd.prog 41 #[.pointer (some ⟨g, 0, none⟩)] W fun e w' => e = .returned (.int .i64 (numN l br).1) ∧ St w0 wb w g b I f w' i s v4 v7 (numN l br).2.1 (numN l br).2.2 := by
  refine (numN_any l br g w0 wb W h.below hG hT hW h.rd).mono ?_
  rintro e w' ⟨rfl, r1, r2, r3⟩
  exact ⟨rfl, h.call hgw hwb hbI r2 r1 r3⟩
set_option maxRecDepth 100000 in
set_option maxHeartbeats 8000000 in
theorem step_any (kind : Int) (wd f : ByteArray) (hf : script_formOf.f kind = some (wd, f)) (hL : Letters f) (l : List S88) (br : Bool) (g : Nat) (w0 wb w : World) (hB : Below w0.heap.size w0 w) (hG : w0.heap.size ≤ g) (hg : g < w.heap.size) (hT : Tab w0) (hW : WB l) (h : RD wb w g l br)
    (s' : S34) (l' : List S88) (br' : Bool) (hE : stepsV f.data.toList ⟨kind, ⟨#[]⟩, ⟨#[]⟩, ⟨#[]⟩, [], 0, 0, []⟩ l br = (s', l', br')) :
    Calls Tryd.prog 44 #[.pointer (some ⟨g, 0, none⟩), .int .i64 kind] w fun e w' => ∃ v4 v7, e = .returned (.agg #[.int .i64 s'.f0, .string s'.f1, .string s'.f2, .string s'.f3, v4, .int .i64 s'.f5, .int .i64 s'.f6, v7]) ∧
      Kd.R k38 38 w' w.heap.size (fun _ => True) v4 s'.f4 ∧ Kd.R (Kd.int .i64) 3 w' w.heap.size (fun _ => True) v7 s'.f7 ∧ RD wb w' g l' br' ∧ KeepBut w w' g none ∧ Below w0.heap.size w0 w' := by
  have HF := fun W => Lib.hid (script_formOf.calls kind wd f W hf)
  have hfl := fld_form wd f
  have HL := Lib.hid hL
  have HE := Lib.hid hE
  have HR := Lib.hid h
  have HB := Lib.hid hB
  have HT := Lib.hid hT
  have h0w := hB.size
  clear hf hL hE h hB hT
  go_enter Tryd.func44, Tryd.ntmps44
  go_wp2_with fail
  refine (HF _).out.mono ?_
  rintro e w1 ⟨rfl, hb1⟩
  have hs1 : w.heap.size + 2 ≤ w1.heap.size := by have := hb1.size; simpa using this
  have HS : Hid (St w0 wb w g (w.heap.size + 1) w1.heap.size f (w1.iter f 0) 0 ⟨kind, ⟨#[]⟩, ⟨#[]⟩, ⟨#[]⟩, [], 0, 0, []⟩ (.slice none 0 0) (.slice none 0 0) l br) := Lib.hid (St.start kind f HB.out hg HR.out hb1)
  clear hb1
  go_wp2_with fail
  go_loopg [7] f.size (fun gk _ wx => ∃ (i : Nat) (s : S34) (v4 v7 : Value) (lx : List S88) (bx : Bool), i + gk = f.size ∧ Hid (St w0 wb w g (w.heap.size + 1) w1.heap.size f wx i s v4 v7 lx bx) ∧ Hid (stepsV (f.data.toList.drop i) s lx bx = (s', l', br')) ∧ (i < f.size → v4 = .slice none 0 0 ∧ v7 = .slice none 0 0 ∧ s.f4 = [] ∧ s.f7 = []) ∧ Hid (WB lx))
  case atStart => exact ⟨0, _, _, _, _, _, by omega, HS, by rw [List.drop_zero]; exact HE, fun _ => ⟨rfl, rfl, rfl, rfl⟩, hW⟩
  case round =>
    obtain ⟨i, s, v4, v7, lx, bx, hig, HSx, HEx, hnil, HWx⟩ := hrel
    cases gk with
    | zero =>
      obtain rfl : i = f.size := by omega
      have hnx := fun ty => Lib.run_next_end_at (P := Tryd.prog) wr w1.heap.size f f.size ty HSx.out.it (by omega)
      have hE2 : (s, lx, bx) = (s', l', br') := by have := HEx.out; rwa [List.drop_of_length_le (by simp)] at this
      simp only [Prod.mk.injEq] at hE2
      obtain ⟨rfl, rfl, rfl⟩ := hE2
      have c0 : wr.cell? ⟨w.heap.size + 1, 0, none⟩ = some (.int .i64 s.f0) := zaa HSx.out.box 0
      have c1 : wr.cell? ⟨w.heap.size + 1, 1, none⟩ = some (.string s.f1) := zaa HSx.out.box 1
      have c2 : wr.cell? ⟨w.heap.size + 1, 2, none⟩ = some (.string s.f2) := zaa HSx.out.box 2
      have c3 : wr.cell? ⟨w.heap.size + 1, 3, none⟩ = some (.string s.f3) := zaa HSx.out.box 3
      have c4 : wr.cell? ⟨w.heap.size + 1, 4, none⟩ = some v4 := zaa HSx.out.box 4
      have c5 : wr.cell? ⟨w.heap.size + 1, 5, none⟩ = some (.int .i64 s.f5) := zaa HSx.out.box 5
      have c6 : wr.cell? ⟨w.heap.size + 1, 6, none⟩ = some (.int .i64 s.f6) := zaa HSx.out.box 6
      have c7 : wr.cell? ⟨w.heap.size + 1, 7, none⟩ = some v7 := zaa HSx.out.box 7
      have d0 : wr.cell? ⟨w.heap.size, 0, none⟩ = some (.int .i64 0) := zaa HSx.out.res 0
      have d1 : wr.cell? ⟨w.heap.size, 1, none⟩ = some (.string ⟨#[]⟩) := zaa HSx.out.res 1
      have d2 : wr.cell? ⟨w.heap.size, 2, none⟩ = some (.string ⟨#[]⟩) := zaa HSx.out.res 2
      have d3 : wr.cell? ⟨w.heap.size, 3, none⟩ = some (.string ⟨#[]⟩) := zaa HSx.out.res 3
      have d4 : wr.cell? ⟨w.heap.size, 4, none⟩ = some (.slice none 0 0) := zaa HSx.out.res 4
      have d5 : wr.cell? ⟨w.heap.size, 5, none⟩ = some (.int .i64 0) := zaa HSx.out.res 5
      have d6 : wr.cell? ⟨w.heap.size, 6, none⟩ = some (.int .i64 0) := zaa HSx.out.res 6
      have d7 : wr.cell? ⟨w.heap.size, 7, none⟩ = some (.slice none 0 0) := zaa HSx.out.res 7
      have fz : ∀ j, wr.frozen? ⟨w.heap.size, j, none⟩ = false := fun j => zab HSx.out.res j
      obtain ⟨A4, c4', rfl⟩ := R_C HSx.out.r4
      obtain ⟨A7, c7', rfl⟩ := R_C HSx.out.r7
      go_wp2
      refine bodyPost_ret (v := .agg #[.int .i64 s.f0, .string s.f1, .string s.f2, .string s.f3, .slice A4 s.f4.length c4', .int .i64 s.f5, .int .i64 s.f6, .slice A7 s.f7.length c7']) (by simp [results, Tryd.results44, go_sem, d0, d1, d2, d3, d4, d5, d6, d7, fz]) rfl ⟨_, _, rfl, ?_⟩
      exact HSx.out.ends8 hg (by omega) h0w _ _ _ _ _ _ _ _
    | succ go =>
      have hi : i < f.size := by omega
      have hlet := HL.out i hi
      obtain ⟨rfl, rfl, e4, e7⟩ := hnil hi
      have HS1 := Lib.hid (HSx.out.next hg (by omega) (by omega) h0w (i + 1))
      have hE1 := HEx.out
      rw [stepsV_cons f i hi] at hE1
      rcases hlet with (hq | hq | hq | hq | hq) | ⟨hq | hq, hend⟩
      · have ha : applV (f[i]'hi).toNat s lx bx = ({ s with f1 := (nextV true lx bx).1.f0 }, (nextV true lx bx).2) := by rw [hq]; rfl
        rw [ha] at hE1
        have HE1 := Lib.hid hE1
        have hnx := fun ty => Lib.run_next_ascii_at (P := Tryd.prog) wr w1.heap.size f i ty HSx.out.it hi (by omega)
        simp only [hq] at hnx
        have HWn : Hid (WB (nextV true lx bx).2.1) := HWx.out.next true bx
        have HC := Lib.hid (quote_any lx bx g w0 wb _ HS1.out.below hG HS1.out.rd)
        generalize (nextV true lx bx).1.f0 = q at *
        generalize (nextV true lx bx).2 = st at *
        clear hE1 ha hq
        go_wp2_with fail
        refine HC.out.mono ?_
        rintro e w2 ⟨rfl, r1, r2, r3⟩
        have HS2 := Lib.hid (HS1.out.call hg (by omega) (by omega) r2 r1 r3)
        have c1 : w2.cell? ⟨w.heap.size + 1, 1, none⟩ = some (.string s.f1) := zaa HS2.out.box 1
        have fz : w2.frozen? ⟨w.heap.size + 1, 1, none⟩ = false := zab HS2.out.box 1
        have HS3 := Lib.hid (HS2.out.put (s' := ⟨s.f0, q, s.f2, s.f3, s.f4, s.f5, s.f6, s.f7⟩) hg (by omega) (by omega) h0w 1 (.string q) rfl rfl rfl)
        clear r1 r2 r3
        go_wp2
        go_roundg go
        case measure => omega
        case rel => exact ⟨i + 1, _, _, _, _, _, by omega, HS3, HE1, fun _ => ⟨rfl, rfl, e4, e7⟩, HWn⟩
      · have ha : applV (f[i]'hi).toNat s lx bx = ({ s with f2 := (nextV true lx bx).1.f0 }, (nextV true lx bx).2) := by rw [hq]; rfl
        rw [ha] at hE1
        have HE1 := Lib.hid hE1
        have hnx := fun ty => Lib.run_next_ascii_at (P := Tryd.prog) wr w1.heap.size f i ty HSx.out.it hi (by omega)
        simp only [hq] at hnx
        have HWn : Hid (WB (nextV true lx bx).2.1) := HWx.out.next true bx
        have HC := Lib.hid (quote_any lx bx g w0 wb _ HS1.out.below hG HS1.out.rd)
        generalize (nextV true lx bx).1.f0 = q at *
        generalize (nextV true lx bx).2 = st at *
        clear hE1 ha hq
        go_wp2_with fail
        refine HC.out.mono ?_
        rintro e w2 ⟨rfl, r1, r2, r3⟩
        have HS2 := Lib.hid (HS1.out.call hg (by omega) (by omega) r2 r1 r3)
        have c2 : w2.cell? ⟨w.heap.size + 1, 2, none⟩ = some (.string s.f2) := zaa HS2.out.box 2
        have fz : w2.frozen? ⟨w.heap.size + 1, 2, none⟩ = false := zab HS2.out.box 2
        have HS3 := Lib.hid (HS2.out.put (s' := ⟨s.f0, s.f1, q, s.f3, s.f4, s.f5, s.f6, s.f7⟩) hg (by omega) (by omega) h0w 2 (.string q) rfl rfl rfl)
        clear r1 r2 r3
        go_wp2
        go_roundg go
        case measure => omega
        case rel => exact ⟨i + 1, _, _, _, _, _, by omega, HS3, HE1, fun _ => ⟨rfl, rfl, e4, e7⟩, HWn⟩
      · have ha : applV (f[i]'hi).toNat s lx bx = ({ s with f3 := (nextV true lx bx).1.f0 }, (nextV true lx bx).2) := by rw [hq]; rfl
        rw [ha] at hE1
        have HE1 := Lib.hid hE1
        have hnx := fun ty => Lib.run_next_ascii_at (P := Tryd.prog) wr w1.heap.size f i ty HSx.out.it hi (by omega)
        simp only [hq] at hnx
        have HWn : Hid (WB (nextV true lx bx).2.1) := HWx.out.next true bx
        have HC := Lib.hid (quote_any lx bx g w0 wb _ HS1.out.below hG HS1.out.rd)
        generalize (nextV true lx bx).1.f0 = q at *
        generalize (nextV true lx bx).2 = st at *
        clear hE1 ha hq
        go_wp2_with fail
        refine HC.out.mono ?_
        rintro e w2 ⟨rfl, r1, r2, r3⟩
        have HS2 := Lib.hid (HS1.out.call hg (by omega) (by omega) r2 r1 r3)
        have c3 : w2.cell? ⟨w.heap.size + 1, 3, none⟩ = some (.string s.f3) := zaa HS2.out.box 3
        have fz : w2.frozen? ⟨w.heap.size + 1, 3, none⟩ = false := zab HS2.out.box 3
        have HS3 := Lib.hid (HS2.out.put (s' := ⟨s.f0, s.f1, s.f2, q, s.f4, s.f5, s.f6, s.f7⟩) hg (by omega) (by omega) h0w 3 (.string q) rfl rfl rfl)
        clear r1 r2 r3
        go_wp2
        go_roundg go
        case measure => omega
        case rel => exact ⟨i + 1, _, _, _, _, _, by omega, HS3, HE1, fun _ => ⟨rfl, rfl, e4, e7⟩, HWn⟩
      · have ha : applV (f[i]'hi).toNat s lx bx = ({ s with f5 := (numN lx bx).1 }, (numN lx bx).2) := by rw [hq]; rfl
        rw [ha] at hE1
        have HE1 := Lib.hid hE1
        have hnx := fun ty => Lib.run_next_ascii_at (P := Tryd.prog) wr w1.heap.size f i ty HSx.out.it hi (by omega)
        simp only [hq] at hnx
        have HWn : Hid (WB (numN lx bx).2.1) := HWx.out.next false bx
        have HC := Lib.hid (numN_any lx bx g w0 wb _ HS1.out.below hG HT.out HWx.out HS1.out.rd)
        generalize (numN lx bx).1 = q at *
        generalize (numN lx bx).2 = st at *
        clear hE1 ha hq
        go_wp2_with fail
        refine HC.out.mono ?_
        rintro e w2 ⟨rfl, r1, r2, r3⟩
        have HS2 := Lib.hid (HS1.out.call hg (by omega) (by omega) r2 r1 r3)
        have c5 : w2.cell? ⟨w.heap.size + 1, 5, none⟩ = some (.int .i64 s.f5) := zaa HS2.out.box 5
        have fz : w2.frozen? ⟨w.heap.size + 1, 5, none⟩ = false := zab HS2.out.box 5
        have HS3 := Lib.hid (HS2.out.put (s' := ⟨s.f0, s.f1, s.f2, s.f3, s.f4, q, s.f6, s.f7⟩) hg (by omega) (by omega) h0w 5 (.int .i64 q) rfl rfl rfl)
        clear r1 r2 r3
        go_wp2
        go_roundg go
        case measure => omega
        case rel => exact ⟨i + 1, _, _, _, _, _, by omega, HS3, HE1, fun _ => ⟨rfl, rfl, e4, e7⟩, HWn⟩
      · have ha : applV (f[i]'hi).toNat s lx bx = ({ s with f6 := (numN lx bx).1 }, (numN lx bx).2) := by rw [hq]; rfl
        rw [ha] at hE1
        have HE1 := Lib.hid hE1
        have hnx := fun ty => Lib.run_next_ascii_at (P := Tryd.prog) wr w1.heap.size f i ty HSx.out.it hi (by omega)
        simp only [hq] at hnx
        have HWn : Hid (WB (numN lx bx).2.1) := HWx.out.next false bx
        have HC := Lib.hid (numN_any lx bx g w0 wb _ HS1.out.below hG HT.out HWx.out HS1.out.rd)
        generalize (numN lx bx).1 = q at *
        generalize (numN lx bx).2 = st at *
        clear hE1 ha hq
        go_wp2_with fail
        refine HC.out.mono ?_
        rintro e w2 ⟨rfl, r1, r2, r3⟩
        have HS2 := Lib.hid (HS1.out.call hg (by omega) (by omega) r2 r1 r3)
        have c6 : w2.cell? ⟨w.heap.size + 1, 6, none⟩ = some (.int .i64 s.f6) := zaa HS2.out.box 6
        have fz : w2.frozen? ⟨w.heap.size + 1, 6, none⟩ = false := zab HS2.out.box 6
        have HS3 := Lib.hid (HS2.out.put (s' := ⟨s.f0, s.f1, s.f2, s.f3, s.f4, s.f5, q, s.f7⟩) hg (by omega) (by omega) h0w 6 (.int .i64 q) rfl rfl rfl)
        clear r1 r2 r3
        go_wp2
        go_roundg go
        case measure => omega
        case rel => exact ⟨i + 1, _, _, _, _, _, by omega, HS3, HE1, fun _ => ⟨rfl, rfl, e4, e7⟩, HWn⟩
      · have ha : applV (f[i]'hi).toNat s lx bx = ({ s with f4 := s.f4 ++ (metaV lx bx).1 }, [], (metaV lx bx).2) := by rw [hq]; rfl
        rw [ha] at hE1
        have HE1 := Lib.hid hE1
        have hnx := fun ty => Lib.run_next_ascii_at (P := Tryd.prog) wr w1.heap.size f i ty HSx.out.it hi (by omega)
        simp only [hq] at hnx
        have HD := Lib.hid hend
        clear hE1 ha hq hend
        obtain ⟨wo, rfl⟩ : ∃ wo : World, wo = wr := ⟨_, rfl⟩
        go_wp2_with fail
        go_loopg [] lx.length (fun gm wx => ∃ (s2 : S34) (n4 : Value) (lm : List S88) (bm : Bool), lm.length ≤ gm ∧ s2.f4.length + lm.length ≤ 4294967296 ∧ Hid (St w0 wb w g (w.heap.size + 1) w1.heap.size f wx (i + 1) s2 n4 (.slice none 0 0) lm bm) ∧ Hid (({ s2 with f4 := s2.f4 ++ (metaV lm bm).1 }, (metaV lm bm).2) = (({ s with f4 := s.f4 ++ (metaV lx bx).1 }, (metaV lx bx).2) : S34 × Bool)) ∧ Hid (WB lm) ∧ s2.f7 = [])
        case atStart => exact ⟨s, _, lx, bx, Nat.le_refl _, by rw [e4]; have := HWx.out.len; simpa using this, HS1, rfl, HWx, e7⟩
        case round =>
          obtain ⟨s2, n4, lm, bm, hgm, hbd, HSm, HEm, HWm, e27⟩ := hrel
          obtain ⟨Am, cm, hbm, hlm, hrm, hkm⟩ := HSm.out.rd
          have r0 : wr.cell? ⟨g, 0, none⟩ = some (.slice Am lm.length cm) := zaa hbm 0
          clear hbm hrm hkm
          cases lm with
          | nil =>
            have hm0 := HEm.out
            rw [metaV, dif_pos rfl] at hm0
            simp only [List.append_nil, Prod.mk.injEq] at hm0
            obtain ⟨hs2, hb2⟩ := hm0
            have hs2' : s2 = { s with f4 := s.f4 ++ (metaV lx bx).1 } := hs2
            have HSF : Hid (stepsV (f.data.toList.drop (i + 1)) s2 [] bm = (s', l', br')) := by
              show _ = _
              rw [hb2, hs2']
              exact HE1.out
            clear hs2 hs2' hb2
            go_wp2
            go_roundg go
            case measure => omega
            case rel => exact ⟨i + 1, s2, _, _, _, _, by omega, HSm, HSF, fun h => absurd h (by have := HD.out; omega), HWm⟩
          | cons x rm =>
            obtain ⟨gm', rfl⟩ : ∃ m, gk = m + 1 := ⟨gk - 1, by simp at hgm; omega⟩
            obtain ⟨A4, c4, rfl⟩ := R_C HSm.out.r4
            have hm1 := HEm.out
            rw [metaV, dif_neg (by simp)] at hm1
            dsimp only at hm1
            have hw1 := HWm.out.next true bm
            have hn1 := nextV_len true (x :: rm) bm (by simp)
            have HQ1 := fun W (hb : Below wr.heap.size wr W) => Lib.hid (St.quote (HSm.out.made hg (by omega) (by omega) hb) hG hg (by omega) (by omega))
            generalize (nextV true (x :: rm) bm).1.f0 = q1 at *
            generalize (nextV true (x :: rm) bm).2 = st1 at *
            obtain ⟨l1, b1⟩ := st1
            have hw2 := hw1.next true b1
            have hn2 := nextV_le true l1 b1
            have HQ2 := fun W v4 (h : St w0 wb w g (w.heap.size + 1) w1.heap.size f W (i + 1) s2 v4 (.slice none 0 0) l1 b1) => Lib.hid (St.quote h hG hg (by omega) (by omega))
            dsimp only at hm1 hn1 hw2 HQ1
            generalize (nextV true l1 b1).1.f0 = q2 at *
            generalize (nextV true l1 b1).2 = st2 at *
            obtain ⟨l2, b2⟩ := st2
            dsimp only at hm1 hn2 hw2 HQ2
            have hbx : (s2.f4.length + 1) * 32 ≤ 140737488355328 := by omega
            have HM1 := Lib.hid hm1
            have HW2 := Lib.hid hw2
            have hlen : l2.length ≤ gm' ∧ s2.f4.length + 1 + l2.length ≤ 4294967296 := by simp at hgm hbd hn1; omega
            clear hm1 hw1 hw2 hn1 hn2 hgm hbd
            have k4 : wr.cell? ⟨w.heap.size + 1, 4, none⟩ = some (.slice A4 s2.f4.length c4) := zaa HSm.out.box 4
            have k5 : ∀ n, (wr.drewN n).cell? ⟨w.heap.size + 1, 4, none⟩ = some (.slice A4 s2.f4.length c4) := fun n => k4
            go_wp2_with fail
            go_region_law? (first | (go_simp; go_at_call 42; refine (HQ2 _ _ HS2.out).out.mono ?_; rintro e w3 ⟨rfl, hs3⟩; have HS3 := Lib.hid hs3; have n4 : w3.cell? ⟨w.heap.size + 1, 4, none⟩ = some (.slice A4 s2.f4.length c4) := zaa hs3.box 4; have n5 : ∀ o, (w3.alloc o).cell? ⟨w.heap.size + 1, 4, none⟩ = some (.slice A4 s2.f4.length c4) := fun o => zbq ((Below.refl _ _).alloc (Nat.le_refl _) _) n4; clear hs3) | (go_simp; go_at_call 42; refine (HQ1 _ (below_drewN (Below.refl _ _) 1)).out.mono ?_; rintro e w2 ⟨rfl, hs2⟩; have HS2 := Lib.hid hs2; have m4 : w2.cell? ⟨w.heap.size + 1, 4, none⟩ = some (.slice A4 s2.f4.length c4) := zaa hs2.box 4; have m5 : ∀ n, (w2.drewN n).cell? ⟨w.heap.size + 1, 4, none⟩ = some (.slice A4 s2.f4.length c4) := fun n => m4; clear hs2) | (refine Kd.R_append_step k38 (w1.heap.size + 1) rfl (.tmp 65) (.tmp 71) 31 38 (.agg #[(.string ⟨#[]⟩), (.string ⟨#[]⟩)]) 32 rfl Tryd.underlying31 info38 rfl (by decide) (by decide) (.slice A4 s2.f4.length c4) s2.f4 ⟨q1, q2⟩ [.string q1, .string q2] (fun _ => True) (fun k => False) rfl rfl (k38_mkM _ _ _ _) (fun _ h => h.elim) (fun _ _ => trivial) HS3.out.r4 (Below.refl _ _) (Nat.succ_le_of_lt (blk_lt HS3.out.it)) hbx ?_; intro v1 w4 hR hB hg4 hat; obtain ⟨A5, c5, rfl⟩ := Kd.R_slice hR; have HS4 := Lib.hid (HS3.out.app4 hg (by omega) (by omega) h0w e27 hR hB); rw [show (s2.f4 ++ [(⟨q1, q2⟩ : S38)]).length = s2.f4.length + 1 from List.length_append] at HS4; have p4 : w4.cell? ⟨w.heap.size + 1, 4, none⟩ = some (.slice A4 s2.f4.length c4) := (hB.cell (show w.heap.size + 1 < w1.heap.size + 1 by omega)).trans n4; have pf : w4.frozen? ⟨w.heap.size + 1, 4, none⟩ = false := (hB.frozen (show w.heap.size + 1 < w1.heap.size + 1 by omega)).trans (zab HS3.out.box 4); clear hR hB hg4 hat))
            all_goals
              go_wp2
              go_roundg gm'
              case measure => omega
              case rel => exact ⟨⟨s2.f0, s2.f1, s2.f2, s2.f3, s2.f4 ++ [⟨q1, q2⟩], s2.f5, s2.f6, s2.f7⟩, _, l2, b2, hlen.1, by simp only [List.length_append, List.length_singleton]; exact hlen.2, HS4, Lib.hid (by rw [← HM1.out]; simp only [List.append_assoc, List.singleton_append]), HW2, e27⟩
      · have ha : applV (f[i]'hi).toNat s lx bx = ({ s with f7 := s.f7 ++ (keptV lx bx).1 }, [], (keptV lx bx).2) := by rw [hq]; rfl
        rw [ha] at hE1
        have HE1 := Lib.hid hE1
        have hnx := fun ty => Lib.run_next_ascii_at (P := Tryd.prog) wr w1.heap.size f i ty HSx.out.it hi (by omega)
        simp only [hq] at hnx
        have HD := Lib.hid hend
        clear hE1 ha hq hend
        go_wp2_with fail
        go_loopg [] lx.length (fun gm wx => ∃ (s2 : S34) (n7 : Value) (lm : List S88) (bm : Bool), lm.length ≤ gm ∧ s2.f7.length + lm.length ≤ 4294967296 ∧ Hid (St w0 wb w g (w.heap.size + 1) w1.heap.size f wx (i + 1) s2 (.slice none 0 0) n7 lm bm) ∧ Hid (({ s2 with f7 := s2.f7 ++ (keptV lm bm).1 }, (keptV lm bm).2) = (({ s with f7 := s.f7 ++ (keptV lx bx).1 }, (keptV lx bx).2) : S34 × Bool)) ∧ Hid (WB lm) ∧ s2.f4 = [])
        case atStart => exact ⟨s, _, lx, bx, Nat.le_refl _, by rw [e7]; have := HWx.out.len; simpa using this, HS1, rfl, HWx, e4⟩
        case round =>
          obtain ⟨s2, n7, lm, bm, hgm, hbd, HSm, HEm, HWm, e24⟩ := hrel
          obtain ⟨Am, cm, hbm, hlm, hrm, hkm⟩ := HSm.out.rd
          have r0 : wr.cell? ⟨g, 0, none⟩ = some (.slice Am lm.length cm) := zaa hbm 0
          clear hbm hrm hkm
          cases lm with
          | nil =>
            have hm0 := HEm.out
            rw [keptV, dif_pos rfl] at hm0
            simp only [List.append_nil, Prod.mk.injEq] at hm0
            obtain ⟨hs2, hb2⟩ := hm0
            have hs2' : s2 = { s with f7 := s.f7 ++ (keptV lx bx).1 } := hs2
            have HSF : Hid (stepsV (f.data.toList.drop (i + 1)) s2 [] bm = (s', l', br')) := by
              show _ = _
              rw [hb2, hs2']
              exact HE1.out
            clear hs2 hs2' hb2
            go_wp2
            go_roundg go
            case measure => omega
            case rel => exact ⟨i + 1, s2, _, _, _, _, by omega, HSm, HSF, fun h => absurd h (by have := HD.out; omega), HWm⟩
          | cons x rm =>
            obtain ⟨gm', rfl⟩ : ∃ m, gk = m + 1 := ⟨gk - 1, by simp at hgm; omega⟩
            obtain ⟨A7, c7, rfl⟩ := R_C HSm.out.r7
            have hm1 := HEm.out
            rw [keptV, dif_neg (by simp)] at hm1
            dsimp only at hm1
            have hw1 : WB (numN (x :: rm) bm).2.1 := HWm.out.next false bm
            have hn1 : (numN (x :: rm) bm).2.1.length < (x :: rm).length := nextV_len false (x :: rm) bm (by simp)
            have HQ1 := fun W (hb : Below wr.heap.size wr W) => Lib.hid (St.number (HSm.out.made hg (by omega) (by omega) hb) hG HT.out HWm.out hg (by omega) (by omega))
            generalize (numN (x :: rm) bm).1 = q1 at *
            generalize (numN (x :: rm) bm).2 = st1 at *
            obtain ⟨l1, b1⟩ := st1
            dsimp only at hm1 hn1 hw1 HQ1
            have hbx : (s2.f7.length + 1) * 8 ≤ 140737488355328 := by omega
            have HM1 := Lib.hid hm1
            have HW2 := Lib.hid hw1
            have hlen : l1.length ≤ gm' ∧ s2.f7.length + 1 + l1.length ≤ 4294967296 := by simp at hgm hbd hn1; omega
            clear hm1 hw1 hn1 hgm hbd
            have k4 : wr.cell? ⟨w.heap.size + 1, 7, none⟩ = some (.slice A7 s2.f7.length c7) := zaa HSm.out.box 7
            have k5 : ∀ n, (wr.drewN n).cell? ⟨w.heap.size + 1, 7, none⟩ = some (.slice A7 s2.f7.length c7) := fun n => k4
            go_wp2_with fail
            go_region_law (first | (go_simp; go_at_call 41; refine (HQ1 _ (below_drewN (Below.refl _ _) 1)).out.mono ?_; rintro e w2 ⟨rfl, hs2⟩; have HS3 := Lib.hid hs2; have m4 : w2.cell? ⟨w.heap.size + 1, 7, none⟩ = some (.slice A7 s2.f7.length c7) := zaa hs2.box 7; have n5 : ∀ o, (w2.alloc o).cell? ⟨w.heap.size + 1, 7, none⟩ = some (.slice A7 s2.f7.length c7) := fun o => zbq ((Below.refl _ _).alloc (Nat.le_refl _) _) m4; clear hs2) | (refine Kd.R_append_step (Kd.int .i64) (w1.heap.size + 1) rfl (.tmp 25) (.tmp 28) 32 3 (.int .i64 0) 8 rfl Tryd.underlying32 info3 rfl (by decide) (by decide) (.slice A7 s2.f7.length c7) s2.f7 q1 [.int .i64 q1] (fun _ => True) (fun k => False) rfl rfl rfl (fun _ h => h.elim) (fun _ _ => trivial) HS3.out.r7 (Below.refl _ _) (Nat.succ_le_of_lt (blk_lt HS3.out.it)) hbx ?_; intro v1 w4 hR hB hg4 hat; obtain ⟨A5, c5, rfl⟩ := Kd.R_slice hR; have HS4 := Lib.hid (HS3.out.app7 hg (by omega) (by omega) h0w e24 hR hB); rw [show (s2.f7 ++ [q1]).length = s2.f7.length + 1 from List.length_append] at HS4; have p4 : w4.cell? ⟨w.heap.size + 1, 7, none⟩ = some (.slice A7 s2.f7.length c7) := (hB.cell (show w.heap.size + 1 < w1.heap.size + 1 by omega)).trans m4; have pf : w4.frozen? ⟨w.heap.size + 1, 7, none⟩ = false := (hB.frozen (show w.heap.size + 1 < w1.heap.size + 1 by omega)).trans (zab HS3.out.box 7); clear hR hB hg4 hat))
            all_goals
              go_wp2
              go_roundg gm'
              case measure => omega
              case rel => exact ⟨⟨s2.f0, s2.f1, s2.f2, s2.f3, s2.f4, s2.f5, s2.f6, s2.f7 ++ [q1]⟩, _, l1, b1, hlen.1, by simp only [List.length_append, List.length_singleton]; exact hlen.2, HS4, Lib.hid (by rw [← HM1.out]; simp only [List.append_assoc, List.singleton_append]), HW2, e24⟩
end Go.Proofs.YtdmlgligljagoaaDoor
