/- Strings as lists of bytes: small facts for the walks of this seat.
The kinds of this seat's values and their words, as the kit's print wrote them for this claim.
Regions of open order, taken in one order: short steps.
Worlds: what a call may touch; rows of texts and of writes.
CRC-64 as the program reckons it.
The disk: its value, what its calls do.
The disk: Write.
The disk: Flush.
DERIVED: THE SHELF's CONTRACTS AT THIS DUMP, IN PLAIN WORDS (tools/lay-plain.mjs out of 'TryShelf.lean', which tools/lay-shelf.mjs wrote): THE SAME DECLARATIONS UNDER THE SAME NAMES: 'import', 'namespace', 'open', 'def', 'theorem' AND NOTHING ELSE: no command of the shelf's: FOR A HAND-IN. Each laying: the table of numbers ('.._ren') and one theorem, a field a fact of the dump's own or the kernel's comparison; each contract: ONE APPLICATION.
The disk: New.
The log's texts: numbers, notes.
The log's texts: numbers read, notes read.
The log: its state; met, lay.
The log: Open on a new disk; Blocks, Read.
State behind pointers: a log and its disk, only read.
A transaction's map: elements are blocks of 512 bytes.
Transactions: their state; the plain map of writes.
Walk: a transaction reads a block that it has written.
The log: Read; transactions: Read.
Walks: reads of no block.
Walks: a transaction's blocks, counted.
Walks: a space is placed.
A string, copied into a new block.
Transactions: Write. -/
import Derived.Test.YthijhmidmhgfaaaProg
import Derived.WalkKit
import Derived.WalkSpells
import Derived.WalkLawsBesides
import Derived.Lib.Hide
import Derived.Lib.Strings
import Derived.Lib.Slices
import Derived.Lib.Walk
import Derived.Laws.BytesArg
import Derived.Deep.QuietTactic
import Derived.BigQuiet
import Derived.RegionTactic
import Derived.StillTailTactics
import Derived.Deep.RegionHeld3
import Derived.Deep.RegionWith
import Derived.Below
import Derived.Deep.Draws
import Derived.Deep.AppendLies
import Derived.Maps.AppendAt
import Derived.OwnWalk
import Derived.Laws.MakeOwn
import Derived.Laws.OwnMore
import Derived.Deep.OwnRows
import Derived.Tactics
import Derived.Lib.ConvBytes
import Derived.Laws.Slices
import Derived.KernelRfl
import Derived.RowKit3
import Derived.Deep.LoopGhost
import Derived.WideLaws
import Derived.Deep.DeepCutAuto
import Derived.Deep.CutBlock
import Derived.Laws.Rows
import Derived.Lib.AppendStr
import Derived.ArgAppend
import Derived.Laws.IdiomCopy
import Derived.RowKit
import Derived.OrdersHeld
import Derived.Laws.BitsLemmas
import Derived.Deep.WholeRow
import Derived.Shelf.Strings.Builder1
import Derived.Shelf.Strings.Builder2
import Derived.Shelf.Small.Bits
import Derived.Shelf.Small.Wraps
import Derived.Shelf.Strings.BuilderF
import Derived.Shelf.Strings.BuilderK
import Derived.Shelf.Strings.Builder2Cap
import Derived.Shelf.Strconv.Itoa0
import Derived.Shelf.Sort.Plain
import Derived.Shelf.Strings.Prefix
import Derived.Shelf.Bits.Mul64
import Derived.Shelf.Strings.Repeat
import Derived.Shelf.Strings.BuilderCap
import Derived.Ground.Names2Prog
import Derived.Shelf.Slices.Clone
import Derived.Shelf.Slices.SearchI
import Derived.Maps.Own
import Derived.Maps.OwnSet
import Derived.Maps.Views
import Derived.Lib.BufferWrite
set_option linter.unusedVariables false
set_option linter.unusedSimpArgs false
namespace Go.Proofs.Ythijhmidmhgfaaa
open Go.RowKit

/-- The string of a list of bytes. -/
def bs (l : List UInt8) : ByteArray := ⟨l.toArray⟩
theorem bs_size (l : List UInt8) : (bs l).size = l.length := by simp [bs, ByteArray.size]
theorem bs_data (l : List UInt8) : (bs l).data.toList = l := by simp [bs]
theorem bs_toList (l : List UInt8) : (bs l).toList = l := by rw [Lib.toList_data, bs_data]
theorem bs_append (a b : List UInt8) : bs a ++ bs b = bs (a ++ b) := by
  apply ByteArray.ext
  apply Array.ext'
  simp [bs]
theorem bs_extract (l : List UInt8) (a b : Nat) : (bs l).extract a b = bs ((l.drop a).take (b - a)) := by rw [Lib.extract_eq, bs_data]; rfl
/-- A number as a byte. -/
def b8 (x : Int) : UInt8 := UInt8.ofNat x.toNat
theorem results_tmp4 {fn : Func} {t u v x : Tmp} (h : fn.results = #[.tmp t, .tmp u, .tmp v, .tmp x]) (tmps : Array Value) (P : Program) (w : World) :
    (results fn tmps).run P w = .ok (.tuple #[tmps.getD t undef, tmps.getD u undef, tmps.getD v undef, tmps.getD x undef]) w := by
  simp [results, h]
theorem ret_bool {a b : Bool} (h : a = b) : Ending.returned (.bool a) = .returned (.bool b) := by rw [h]
end Go.Proofs.Ythijhmidmhgfaaa

-- PRINTED WORDS (module Derived/Print/Words.lean): go-wishes' parts 1 to 38 and go-gate-2's additions: AI agents of Go's test side, Mon Nov 16 2026; no person has read them. Plain theorems and definitions: no macro, no elab, no axiom.
set_option linter.unusedVariables false
set_option linter.unusedSimpArgs false
namespace Go.Proofs.YthijhmidmhgfaaaW.PrintWords
open Go.RowKit

/-- A fact that the walk's simp doesn't look into. -/
structure Aside0 (p : Prop) : Prop where mk :: (out : p)
/-- The world is the old one, some orders having been drawn. -/
structure Drawn0 (w w' : World) : Prop where mk :: (out : ∃ n, w' = w.drewN n)
theorem Drawn0.refl (w : World) : Drawn0 w w := ⟨⟨0, rfl⟩⟩
theorem Drawn0.step {w w' : World} (h : Drawn0 w w') (n : Nat) : Drawn0 w (w'.drewN n) := by
  obtain ⟨m, rfl⟩ := h
  exact ⟨⟨m + n, World.drewN_drewN ..⟩⟩
theorem Drawn0.grown {w w' : World} (h : Drawn0 w w') : Grown w w' := by
  obtain ⟨n, rfl⟩ := h
  induction n with
  | zero => exact Grown.refl _
  | succ n ih => rw [← World.drew_drewN]; exact Grown.drew ih
theorem Drawn0.below {w w' : World} (h : Drawn0 w w') : Below w.heap.size w w' := by
  obtain ⟨n, rfl⟩ := h
  induction n with
  | zero => exact Below.refl _ _
  | succ n ih => rw [← World.drew_drewN]; exact ih.drew


/-! ### 1. Values and lists -/
def rd (xs : List Int) (i : Int) : Int := xs.getD i.toNat 0
def bt (s : ByteArray) (i : Int) : Int := if h : i.toNat < s.size then ((s[i.toNat]'h).toNat : Int) else 0
def nums (k : IntKind) (xs : List Int) : List Value := xs.map fun x => .int k x
theorem nums_append (k : IntKind) (xs ys : List Int) : nums k (xs ++ ys) = nums k xs ++ nums k ys := by simp [nums]

/-! ### 2. The world -/
theorem below_alloc {w W : World} (h : Below w.heap.size w W) (o : Obj) : Below w.heap.size w (W.alloc o) := h.alloc h.size o
theorem below_drew {B : Nat} {w W : World} (h : Below B w W) : Below B w W.drew := ⟨h.os, h.tape, h.output, h.size, h.block⟩
theorem below_then {B : Nat} {w w1 w2 : World} (h : Below B w w1) (hB : B ≤ w1.heap.size) (k : Below w1.heap.size w1 w2) : Below B w w2 :=
  h.trans ⟨k.os, k.tape, k.output, k.size, fun i hi => k.block i (Nat.lt_of_lt_of_le hi hB)⟩
theorem grown_of_below {w w1 : World} (h : Below w.heap.size w w1) (row : Option Nat) : w.grownBy w1 row := ⟨h.os, h.tape, h.output, h.size, fun i hi _ => h.block i hi⟩
theorem pw_cell_below {w w1 : World} (h : Below w.heap.size w w1) {a : Addr} {v : Value} (hc : w.cell? a = some v) : w1.cell? a = some v := (h.cell (World.block_lt_of_cell? w a hc)).trans hc

theorem add_plain (g j : Nat) : (⟨g, 0, none⟩ : Addr).add j = ⟨g, j, none⟩ := by unfold Addr.add; split <;> simp_all

/-! ### 3. A slice of whole numbers that is read; nil, empty and other slices alike -/
def ReadsInt (w : World) (k : IntKind) (A : Option Addr) (n : Nat) (xs : List Int) : Prop :=
  xs.length = n ∧ n ≤ 9223372036854775807 ∧ (0 < n → ∃ ad, A = some ad ∧ ∀ j, j < n → w.cell? (ad.add j) = some (.int k (xs.getD j 0)))
theorem ReadsInt.at_ {w : World} {k : IntKind} {A : Option Addr} {n : Nat} {xs : List Int} (h : ReadsInt w k A n xs) (i : Int) (h0 : 0 ≤ i) (h1 : i < n) : ∃ ad, A = some ad ∧ w.cell? (ad.add i.toNat) = some (.int k (rd xs i)) := by
  obtain ⟨ad, e, hc⟩ := h.2.2 (by omega)
  exact ⟨ad, e, hc _ (by omega)⟩
theorem ReadsInt.below {w w1 : World} {k : IntKind} {A : Option Addr} {n : Nat} {xs : List Int} (h : ReadsInt w k A n xs) (hb : Below w.heap.size w w1) : ReadsInt w1 k A n xs :=
  ⟨h.1, h.2.1, fun hn => by
    obtain ⟨ad, e, hc⟩ := h.2.2 hn
    exact ⟨ad, e, fun j hj => pw_cell_below hb (hc j hj)⟩⟩

/-! ### 4. A row of the call's own -/
theorem own_nil (W : World) (base : Nat) (e : TypeId) (size : Nat) : W.ownsRow base e size (.slice none 0 0) 0 [] := ⟨by simp, .inl ⟨rfl, rfl⟩⟩
theorem own_base {w : World} {base : Nat} {e : TypeId} {size n : Nat} {v : Value} {xs : List Value} (h : w.ownsRow base e size v n xs) (k : Nat) (hk : v.ownBlock = some k) : base ≤ k := by
  rcases h.2 with ⟨rfl, _⟩ | ⟨g, cap, cur, rfl, hb, _⟩
  · simp [Value.ownBlock] at hk
  · have : g = k := by simpa [Value.ownBlock] using hk
    omega
theorem own_lt {w : World} {base : Nat} {e : TypeId} {size n : Nat} {v : Value} {xs : List Value} (h : w.ownsRow base e size v n xs) (k : Nat) (hk : v.ownBlock = some k) : k < w.heap.size := by
  rcases h.2 with ⟨rfl, _⟩ | ⟨g, cap, cur, rfl, hb, hh, _⟩
  · simp [Value.ownBlock] at hk
  · have : g = k := by simpa [Value.ownBlock] using hk
    subst this
    exact (Array.getElem?_eq_some_iff.1 hh).1
theorem pw_own_below {w w1 : World} {base : Nat} {e : TypeId} {size n : Nat} {v : Value} {xs : List Value} (h : w.ownsRow base e size v n xs) (hb : Below w.heap.size w w1) : w1.ownsRow base e size v n xs :=
  h.kept (grown_of_below hb none) (by cases v.ownBlock <;> simp)
/-- What is written is another row: this one lives on. -/
theorem own_other {w w1 : World} {base : Nat} {e : TypeId} {size n : Nat} {v : Value} {xs : List Value} (h : w.ownsRow base e size v n xs) {row : Option Nat} (hg : w.grownBy w1 row) (hne : v.ownBlock = none ∨ v.ownBlock ≠ row) : w1.ownsRow base e size v n xs := h.kept hg hne
theorem own_reads {w : World} {base n : Nat} {e : TypeId} {k : IntKind} {v : Value} {xs : List Int} (h : w.ownsRow base e 1 v n (nums k xs)) : ∃ A c, v = .slice A n c ∧ ReadsInt w k A n xs := by
  have hl : xs.length = n := by have := h.1; simp [nums] at this; exact this
  rcases Nat.eq_zero_or_pos n with h0 | h0
  · rcases h.2 with ⟨rfl, rfl⟩ | ⟨g, cap, cur, rfl, _⟩
    · exact ⟨none, 0, rfl, hl, by omega, fun hp => absurd hp (by omega)⟩
    · exact ⟨_, cap, rfl, hl, by omega, fun hp => absurd hp (by omega)⟩
  · obtain ⟨g, cap, rfl, _, _⟩ := h.form h0
    have hm : n ≤ 9223372036854775807 := by
      rcases h.2 with ⟨_, h1⟩ | ⟨g', cap', cur, he, _, _, h1, h2, _⟩
      · omega
      · simp only [maxLen] at h2
        omega
    refine ⟨_, cap, rfl, hl, hm, fun _ => ⟨_, rfl, fun j hj => h.cells (g := g) rfl j _ ?_⟩⟩
    simp [nums, List.getElem?_eq_getElem (show j < xs.length by omega), List.getD_eq_getElem?_getD]
/-- The shape of whatever is owned. -/
theorem own_slice {w : World} {base n : Nat} {e : TypeId} {size : Nat} {v : Value} {xs : List Value} (h : w.ownsRow base e size v n xs) : ∃ A c, v = .slice A n c := by
  rcases h.2 with ⟨rfl, rfl⟩ | ⟨g, cap, cur, rfl, _⟩
  · exact ⟨none, 0, rfl⟩
  · exact ⟨_, cap, rfl⟩
theorem own_string {P : Program} {w : World} {base n : Nat} {e' src dst e : TypeId} {v : Value} {xs : List Int} (hs : P.underlying src = some (.slice e)) (he : P.underlying e = some (.int .u8)) (hd : P.underlying dst = some .string)
    (h : w.ownsRow base e' 1 v n (nums .u8 xs)) : (convert src dst v).run P w = .ok (.string (strOfNums xs)) w := by
  have hl : xs.length = n := by have := h.1; simp [nums] at this; exact this
  rcases h.2 with ⟨rfl, rfl⟩ | ⟨g, cap, cur, rfl, _⟩
  · obtain rfl : xs = [] := List.eq_nil_of_length_eq_zero hl
    exact run_convert_bytes_nil w src e hs he 0 0 dst hd
  · refine run_convert_bytes_arg w src e hs he g 0 n cap xs hl (fun i hi => ?_) dst hd
    have hc := h.cells (g := g) rfl i (.int .u8 (xs.getD i 0)) (by simp [nums, List.getElem?_eq_getElem (show i < xs.length by omega), List.getD_eq_getElem?_getD])
    have ha : (⟨g, 0, none⟩ : Addr).add i = ⟨g, 0 + i, none⟩ := by unfold Addr.add; split <;> simp_all
    rwa [ha] at hc

/-! ### 5. append(v, x): behind 'at_builtin'; the goal's world is 'W.alloc' of the variadic's box -/
section
variable {P : Program} {ops : Array Oper} {rest : List Oper} {o : Oper} {a : Act} {Q : Exit → Act → World → Prop}

end

/-! ### 6. make([]T, n), n an Int; a literal -/
section
variable {P : Program}
/-- Laid ahead of go_enter, the Int a cast: 'obtain ⟨m, rfl⟩ := Int.eq_ofNat_of_zero_le h0' first; the walk takes it as_ a rule. -/
theorem print_make (t e : TypeId) (k : IntKind) (bytes : Nat) (ht : P.underlying t = some (.slice e)) (hinfo : (P.info? e).map (fun i => (i.zero, i.size, i.bytes)) = some (some (.int k 0), 1, bytes)) (hb0 : 0 < bytes)
    (m : Nat) (hn : m * bytes ≤ 281474976710656) :
    ∀ W : World, (Instr.makeSlice t (.int .i64 (m : Int)) (.int .i64 (m : Int))).run P W = .ok (.slice (some ⟨W.heap.size, 0, none⟩) m m) (W.alloc (.cells (madeCells #[.int k 0] m) e)) := by
  intro W
  have hm : m ≤ 281474976710656 := Nat.le_trans (Nat.le_mul_of_pos_right _ hb0) hn
  exact run_make_row' t e (.int k 0) bytes ht hinfo rfl .i64 .i64 m (by rw [Nat.mul_comm]; exact hn) (by omega) W
end
theorem own_made (W : World) (base : Nat) (e : TypeId) (k : IntKind) (m : Nat) (hb : base ≤ W.heap.size) (hm : m ≤ 9223372036854775807) :
    (W.alloc (.cells (madeCells #[.int k 0] m) e)).ownsRow base e 1 (.slice (some ⟨W.heap.size, 0, none⟩) m m) m (nums k (List.replicate m 0)) := by
  have h := World.ownsRow_lit (base := base) (e := e) (size := 1) W (madeCells #[.int k 0] m) m hb (by simpa [maxLen] using hm) (by simp [size_madeCells])
  have hl : (madeCells #[Value.int k 0] m).toList = nums k (List.replicate m 0) := by
    apply List.ext_getElem
    · simp [nums, madeCells]
    · intro i h1 h2
      simp [nums, madeCells, Nat.mod_one]
  rwa [hl] at h
theorem own_lit (W : World) (base : Nat) (e : TypeId) (k : IntKind) (xs : List Int) (hb : base ≤ W.heap.size) (hm : xs.length ≤ 9223372036854775807) :
    (W.alloc (.cells (nums k xs).toArray e)).ownsRow base e 1 (.slice (some ⟨W.heap.size, 0, none⟩) xs.length xs.length) xs.length (nums k xs) := by
  have h := World.ownsRow_lit (base := base) (e := e) (size := 1) W (nums k xs).toArray xs.length hb (by simpa [maxLen] using hm) (by simp [nums])
  simpa using h

/-! ### 7. v[i] read and v[i] = x, v a row of the call's own: 'obtain ⟨g, cap, rfl, hgb, hgl⟩ := HO.out.form (by omega)' first -/
theorem own_at {W : World} {base g n cap : Nat} {e : TypeId} {k : IntKind} {xs : List Int} (h : W.ownsRow base e 1 (.slice (some ⟨g, 0, none⟩) n cap) n (nums k xs)) (i : Int) (h0 : 0 ≤ i) (h1 : i < n) :
    W.cell? ⟨g, i.toNat, none⟩ = some (.int k (rd xs i)) ∧ W.frozen? ⟨g, i.toNat, none⟩ = false := by
  have hl : xs.length = n := by have := h.1; simp [nums] at this; exact this
  constructor
  · have hc := h.cells (g := g) rfl i.toNat (.int k (rd xs i)) (by simp [nums, rd, List.getElem?_eq_getElem (show i.toNat < xs.length by omega), List.getD_eq_getElem?_getD])
    rwa [add_plain] at hc
  · rcases h.2 with ⟨h', _⟩ | ⟨g', cap', cur, h', _, hh, _⟩
    · cases h'
    · have : g = g' := by injection h' with h'; injection h' with h'; injection h' with h'
      subst this
      simp [World.frozen?, hh]
theorem own_store {W : World} {base g n cap : Nat} {e : TypeId} {k : IntKind} {xs : List Int} (h : W.ownsRow base e 1 (.slice (some ⟨g, 0, none⟩) n cap) n (nums k xs)) (i x : Int) :
    (W.setCell ⟨g, i.toNat, none⟩ (.int k x)).ownsRow base e 1 (.slice (some ⟨g, 0, none⟩) n cap) n (nums k (xs.set i.toNat x)) ∧ W.grownBy (W.setCell ⟨g, i.toNat, none⟩ (.int k x)) (some g) := by
  have hs := h.stored i.toNat (.int k x)
  have he : (nums k xs).set i.toNat (.int k x) = nums k (xs.set i.toNat x) := by simp [nums, List.map_set]
  rwa [he] at hs

/-! ### 8. append(v, ys...): ys a slice that is read, nil let in; behind 'at_builtin' -/
section
variable {P : Program} {ops : Array Oper} {rest : List Oper} {o : Oper} {a : Act} {Q : Exit → Act → World → Prop}
theorem print_append_row {w0 W : World} (base : Nat) (hgd : o.guard = none) (s x : Operand) (t e : TypeId) (k : IntKind) (bytes : Nat)
    (ho : o.op = .call { callee := .builtin .append, args := #[s, x], argTypes := #[t, t] })
    (ht : P.underlying t = some (.slice e)) (hinfo : (P.info? e).map (fun i => (i.zero, i.size, i.bytes)) = some (some (.int k 0), 1, bytes)) (hb0 : 0 < bytes)
    (v : Value) (xs ys : List Int) (A : Option Addr) (m c : Nat) (hs : a.eval s = v) (hx : a.eval x = .slice A m c)
    (HO : W.ownsRow base e 1 v xs.length (nums k xs)) (HR : ReadsInt W k A m ys) (HB : Below base w0 W) (hbase : base ≤ W.heap.size) (hl : (xs.length + m) * bytes ≤ 140737488355328)
    (h : ∀ v1 w1, w1.ownsRow base e 1 v1 (xs ++ ys).length (nums k (xs ++ ys)) → Below base w0 w1 → W.grownBy w1 v.ownBlock → (v1.ownBlock = v.ownBlock ∨ ∃ b, v1.ownBlock = some b ∧ W.heap.size ≤ b) → wpList P ops Q rest (a.put o.dst v1) w1) :
    wpList P ops Q (o :: rest) a W := by
  obtain ⟨i0, hi, hzz⟩ := Option.map_eq_some_iff.1 hinfo
  simp only [Prod.mk.injEq] at hzz
  obtain ⟨hz0, hz1, hz2⟩ := hzz
  have hm : ys.length = m := HR.1
  have hlen : xs.length + m ≤ 140737488355328 := Nat.le_trans (Nat.le_mul_of_pos_right _ hb0) hl
  have hrun : ∃ v1 w1, (Builtin.append_ #[t, t] o.type #[v, .slice A m c]).run P W = .ok v1 w1 ∧ w1.ownsRow base e 1 v1 (xs ++ ys).length (nums k (xs ++ ys)) ∧ W.grownBy w1 v.ownBlock ∧ (v1.ownBlock = v.ownBlock ∨ v1.ownBlock = some W.heap.size) := by
    rcases A with _ | ad
    · have h0 : m = 0 := by
        rcases Nat.eq_zero_or_pos m with h0 | h0
        · exact h0
        · obtain ⟨ad, h, _⟩ := HR.2.2 h0
          cases h
      subst h0
      obtain rfl : ys = [] := List.eq_nil_of_length_eq_zero hm
      refine ⟨v, W, ?_, by simpa using HO, World.grownBy.refl W _, .inl rfl⟩
      rcases HO.2 with ⟨rfl, hn⟩ | ⟨g, cap, cur, rfl, _, _, hnc, _⟩
      · simp [Builtin.append_, run_underlying ht, sizeOf, typeInfo, hi, Builtin.lenOf, Builtin.firstCells]
      · simp [Builtin.append_, run_underlying ht, sizeOf, typeInfo, hi, Builtin.lenOf, Builtin.firstCells, hnc, storeCells]
    · have hcells : ∀ j u, (nums k ys)[j]? = some u → W.cell? (ad.add j) = some u := by
        intro j u hu
        have hj : j < ys.length := by
          rcases Nat.lt_or_ge j ys.length with h | h
          · exact h
          · simp [nums, List.getElem?_eq_none h] at hu
        obtain ⟨ad', h', hc⟩ := HR.2.2 (by omega)
        injection h' with h'
        subst h'
        have := hc j (by omega)
        simp [nums, List.getElem?_eq_getElem hj] at hu
        subst hu
        rw [this]
        simp [List.getD_eq_getElem?_getD, List.getElem?_eq_getElem hj]
      obtain ⟨v1, w1, hr, h2, h3, _, h5⟩ := run_append_own_at (P := P) W base t o.type e i0 (.int k 0) 1 bytes ht hi hz0 hz1 hz2 rfl (by omega) v xs.length (nums k xs) HO ad m c (nums k ys) (by simp [nums, hm]) hcells
        (by intro u hu; simp only [nums, List.mem_map] at hu; obtain ⟨q, _, rfl⟩ := hu; rfl) (by simp only [maxLen]; omega) hl hbase
      exact ⟨v1, w1, hr, by simpa [nums, hm] using h2, h3, h5⟩
  obtain ⟨v1, w1, hr, hown, hg, hat⟩ := hrun
  refine wpList_plain hgd fun K hK => ?_
  unfold Oper.wp execOp
  simp only [ho, resolve, invoke, builtin, Sem.run_bind, Sem.run_pure, Result.andThen_ok, List.map_toArray, List.map_cons, List.map_nil, hs, hx, hr]
  refine hK _ _ (h v1 w1 hown (HB.grown hg hbase (own_base HO)) hg ?_)
  rcases hat with hat | hat
  · exact .inl hat
  · exact .inr ⟨_, hat, Nat.le_refl _⟩
end

/-! ### 9. []byte(s): a slice that is read (its row bears a conversion's mark: no row of one's own); cuts of a slice that is read -/
def bytesOf (s : ByteArray) : List Int := s.data.toList.map fun b => (b.toNat : Int)
theorem data_length (s : ByteArray) : s.data.toList.length = s.size := by rw [Array.length_toList]; rfl
theorem bytesOf_length (s : ByteArray) : (bytesOf s).length = s.size := by rw [bytesOf, List.length_map, data_length]
/-- 'xs[:k]' and 'xs[k:]' of a slice that is read; the address of the second as_ the walk has it. -/
theorem ReadsInt.take_ {w : World} {k : IntKind} {A : Option Addr} {n : Nat} {xs : List Int} (h : ReadsInt w k A n xs) (i : Nat) (hi : i ≤ n) : ReadsInt w k A i (xs.take i) := by
  refine ⟨by rw [List.length_take, h.1]; omega, by have := h.2.1; omega, fun hp => ?_⟩
  obtain ⟨ad, e, hc⟩ := h.2.2 (by omega)
  refine ⟨ad, e, fun j hj => ?_⟩
  rw [hc j (by omega)]
  simp [List.getD_eq_getElem?_getD, hj]
theorem ReadsInt.drop_ {w : World} {k : IntKind} {A : Option Addr} {n c : Nat} {xs : List Int} (h : ReadsInt w k A n xs) (i : Nat) (hi : i ≤ n) (hc : n ≤ c) : ReadsInt w k (if c = i then A else A.map (·.add i)) (n - i) (xs.drop i) := by
  refine ⟨by rw [List.length_drop, h.1], by have := h.2.1; omega, fun hp => ?_⟩
  obtain ⟨ad, rfl, hcell⟩ := h.2.2 (by omega)
  rw [if_neg (by omega)]
  refine ⟨ad.add i, rfl, fun j hj => ?_⟩
  have ha : (ad.add i).add j = ad.add (i + j) := by
    unfold Addr.add
    by_cases h1 : i = 0 <;> by_cases h2 : j = 0 <;> simp [h1, h2, Nat.add_assoc]
  rw [ha, hcell (i + j) (by omega)]
  simp [List.getD_eq_getElem?_getD, List.getElem?_drop]
/-! ### 10. Rounds: more rounds give the same answer; what ends gives a number of rounds -/
/-- Where the first answers, the second answers the same. -/
def LeO {α : Type} (a b : Option α) : Prop := ∀ r, a = some r → b = some r
theorem LeO.refl {α : Type} (a : Option α) : LeO a a := fun _ h => h
theorem LeO.none {α : Type} (b : Option α) : LeO Option.none b := fun _ h => by cases h
theorem LeO.trans {α : Type} {a b c : Option α} (h : LeO a b) (k : LeO b c) : LeO a c := fun r hr => k r (h r hr)
theorem LeO.bind {α β : Type} {a a' : Option α} {f f' : α → Option β} (h : LeO a a') (k : ∀ x, LeO (f x) (f' x)) : LeO (a.bind f) (a'.bind f') := by
  intro r hr
  obtain ⟨x, hx, hf⟩ := Option.bind_eq_some_iff.1 hr
  exact Option.bind_eq_some_iff.2 ⟨x, h x hx, k x r hf⟩
theorem LeO.map {α β : Type} {a a' : Option α} (f : α → β) (h : LeO a a') : LeO (a.map f) (a'.map f) := by
  intro r hr
  obtain ⟨x, hx, hf⟩ := Option.map_eq_some_iff.1 hr
  exact Option.map_eq_some_iff.2 ⟨x, h x hx, hf⟩
theorem more_rounds {α : Type} {g : Nat → Option α} (h : ∀ k, LeO (g k) (g (k + 1))) (k : Nat) : ∀ j, LeO (g k) (g (k + j))
  | 0 => LeO.refl _
  | j + 1 => (more_rounds h k j).trans (h (k + j))
theorem at_rounds {α : Type} {g : Nat → Option α} (h : ∀ k, LeO (g k) (g (k + 1))) {k k' : Nat} (hk : k ≤ k') {r : α} (hr : g k = some r) : g k' = some r := by
  have := more_rounds h k (k' - k) r hr
  rwa [Nat.add_sub_cancel' hk] at this
/-! ### 11. Rows of elements of several cells (structs): read, made. R: what an element's cells say ('RepItem w': printed for each type) -/
def Reps {α : Type} (R : α → List Value → Prop) (size : Nat) (ps : List α) (cs : List Value) : Prop :=
  cs.length = ps.length * size ∧ ∀ j p, ps[j]? = some p → R p ((cs.drop (j * size)).take size)
theorem Reps.none {α : Type} (R : α → List Value → Prop) (size : Nat) : Reps R size [] [] := ⟨by simp, fun j p h => by simp at h⟩
theorem Reps.snoc {α : Type} {R : α → List Value → Prop} {size : Nat} {ps : List α} {cs c : List Value} {p : α} (h : Reps R size ps cs) (hp : R p c) (hc : c.length = size) : Reps R size (ps ++ [p]) (cs ++ c) := by
  refine ⟨by rw [List.length_append, h.1, hc, List.length_append, List.length_singleton, Nat.add_mul, Nat.one_mul], fun j q hq => ?_⟩
  rcases Nat.lt_or_ge j ps.length with hj | hj
  · rw [List.getElem?_append_left hj] at hq
    have h1 : j * size + size ≤ cs.length := by rw [h.1, ← Nat.succ_mul]; exact Nat.mul_le_mul_right _ hj
    have h2 := h.2 j q hq
    rw [List.drop_append_of_le_length (by omega), List.take_append_of_le_length (by rw [List.length_drop]; omega)]
    exact h2
  · have hj' : j = ps.length := by
      have := (List.getElem?_eq_some_iff.1 hq).1
      rw [List.length_append, List.length_singleton] at this
      omega
    subst hj'
    have hq' : p = q := by simpa using hq
    subst hq'
    rw [← h.1, List.drop_left, ← hc, List.take_length]
    exact hp
theorem Reps.imp_ {α : Type} {R R' : α → List Value → Prop} {size : Nat} {ps : List α} {cs : List Value} (h : Reps R size ps cs) (hR : ∀ p c, R p c → R' p c) : Reps R' size ps cs := ⟨h.1, fun j p hj => hR _ _ (h.2 j p hj)⟩

def ReadsRow {α : Type} (R : α → List Value → Prop) (size : Nat) (w : World) (A : Option Addr) (n : Nat) (ps : List α) : Prop :=
  ps.length = n ∧ n ≤ 9223372036854775807 ∧ (0 < n → ∃ ad, A = some ad ∧ ∀ j p, ps[j]? = some p → ∃ c, c.length = size ∧ R p c ∧ ∀ i u, c[i]? = some u → w.cell? (ad.add (j * size + i)) = some u)
theorem ReadsRow.get_ {α : Type} {R : α → List Value → Prop} {size : Nat} {w : World} {A : Option Addr} {n : Nat} {ps : List α} (h : ReadsRow R size w A n ps) (d : α) (i : Int) (h0 : 0 ≤ i) (h1 : i < n) :
    ∃ ad c, A = some ad ∧ c.length = size ∧ R (ps.getD i.toNat d) c ∧ ∀ j u, c[j]? = some u → w.cell? (ad.add (i.toNat * size + j)) = some u := by
  obtain ⟨ad, e, hc⟩ := h.2.2 (by omega)
  have hl : i.toNat < ps.length := by have := h.1; omega
  obtain ⟨c, hs, hr, hcell⟩ := hc i.toNat _ (List.getElem?_eq_getElem hl)
  refine ⟨ad, c, e, hs, ?_, hcell⟩
  rw [List.getD_eq_getElem?_getD, List.getElem?_eq_getElem hl]
  exact hr
theorem ReadsRow.imp_ {α : Type} {R R' : α → List Value → Prop} {size : Nat} {w w1 : World} {A : Option Addr} {n : Nat} {ps : List α} (h : ReadsRow R size w A n ps) (hb : Below w.heap.size w w1) (hR : ∀ p c, R p c → R' p c) : ReadsRow R' size w1 A n ps :=
  ⟨h.1, h.2.1, fun hn => by
    obtain ⟨ad, e, hc⟩ := h.2.2 hn
    refine ⟨ad, e, fun j p hj => ?_⟩
    obtain ⟨c, hs, hr, hcell⟩ := hc j p hj
    exact ⟨c, hs, hR _ _ hr, fun i u hu => pw_cell_below hb (hcell i u hu)⟩⟩
theorem own_reads_row {α : Type} {R : α → List Value → Prop} {w : World} {base n size : Nat} {e : TypeId} {v : Value} {ps : List α} {cs : List Value} (h : w.ownsRow base e size v n cs) (hR : Reps R size ps cs) (hn : ps.length = n) :
    ∃ A c, v = .slice A n c ∧ ReadsRow R size w A n ps := by
  rcases Nat.eq_zero_or_pos n with h0 | h0
  · rcases h.2 with ⟨rfl, rfl⟩ | ⟨g, cap, cur, rfl, _⟩
    · exact ⟨none, 0, rfl, hn, by omega, fun hp => absurd hp (by omega)⟩
    · exact ⟨_, cap, rfl, hn, by omega, fun hp => absurd hp (by omega)⟩
  · obtain ⟨g, cap, rfl, _, _⟩ := h.form h0
    have hm : n ≤ 9223372036854775807 := by
      rcases h.2 with ⟨_, h1⟩ | ⟨g', cap', cur, he, _, _, h1, h2, _⟩
      · omega
      · simp only [maxLen] at h2
        omega
    refine ⟨_, cap, rfl, hn, hm, fun _ => ⟨_, rfl, fun j p hj => ⟨(cs.drop (j * size)).take size, ?_, hR.2 j p hj, fun i u hu => ?_⟩⟩⟩
    · have hjl := (List.getElem?_eq_some_iff.1 hj).1
      have h1 : j * size + size ≤ cs.length := by rw [hR.1, ← Nat.succ_mul]; exact Nat.mul_le_mul_right _ hjl
      rw [List.length_take, List.length_drop]
      omega
    · refine h.cells (g := g) rfl _ u ?_
      rw [List.getElem?_take] at hu
      split at hu
      · rw [List.getElem?_drop] at hu
        exact hu
      · cases hu
section
variable {P : Program} {ops : Array Oper} {rest : List Oper} {o : Oper} {a : Act} {Q : Exit → Act → World → Prop}
/-- append(v, x), x of several cells; behind 'at_builtin'; the goal's world is 'W.alloc' of the variadic's box. -/
theorem print_append_cells {w0 W : World} (base : Nat) (hgd : o.guard = none) (s x : Operand) (t e : TypeId) (z : Value) (size bytes : Nat)
    (ho : o.op = .call { callee := .builtin .append, args := #[s, x], argTypes := #[t, t] })
    (ht : P.underlying t = some (.slice e)) (hinfo : (P.info? e).map (fun i => (i.zero, i.size, i.bytes)) = some (some z, size, bytes)) (hz : z.cells.size = size) (hs0 : 0 < size) (hb0 : 0 < bytes)
    (v : Value) (n : Nat) (xs ys : List Value) (hs : a.eval s = v) (hx : a.eval x = .slice (some ⟨W.heap.size, 0, none⟩) 1 1) (hys : ys.length = size) (h1 : ∀ u ∈ ys, u.oneCell' = true)
    (HO : W.ownsRow base e size v n xs) (HB : Below base w0 W) (hbase : base ≤ W.heap.size) (hl : (n + 1) * bytes ≤ 140737488355328)
    (h : ∀ v1 w1, w1.ownsRow base e size v1 (n + 1) (xs ++ ys) → Below base w0 w1 → W.grownBy w1 v.ownBlock → (v1.ownBlock = v.ownBlock ∨ ∃ b, v1.ownBlock = some b ∧ W.heap.size ≤ b) → wpList P ops Q rest (a.put o.dst v1) w1) :
    wpList P ops Q (o :: rest) a (W.alloc (.cells ys.toArray e)) := by
  obtain ⟨i0, hi, hzz⟩ := Option.map_eq_some_iff.1 hinfo
  simp only [Prod.mk.injEq] at hzz
  obtain ⟨hz0, hz1, hz2⟩ := hzz
  have hlen : n + 1 ≤ 140737488355328 := Nat.le_trans (Nat.le_mul_of_pos_right _ hb0) hl
  refine wpList_append_own_at (W.alloc (.cells ys.toArray e)) hgd s x t ho base e i0 z size bytes ht hi hz0 hz1 hz2 hz hs0 v n xs hs (HO.alloc _) ⟨W.heap.size, 0, none⟩ 1 1 ys hx (by rw [hys]; simp)
    (by simpa using World.news_of_block (cs := ys.toArray) (t := e) (fr := (0, 0)) (heap_alloc_new W (.cells ys.toArray e))) h1 (by simp only [maxLen]; omega) hl (by simp; omega) ?_
  intro v1 w1 hown hg _ hat
  refine h v1 w1 hown ((HB.alloc hbase _).grown hg (by simp; omega) (own_base HO)) (World.grownBy.trans (World.grownBy_alloc W _ _) hg) ?_
  rcases hat with hat | hat
  · exact .inl hat
  · exact .inr ⟨_, hat, by simp⟩
end

/-! ### 12. A block of one's own that is a state: its cells, what a store leaves -/
theorem own_ne {w : World} {base : Nat} {e t : TypeId} {size n g : Nat} {v : Value} {xs : List Value} {cs : Array Value} (h : w.ownsRow base e size v n xs) (hg : w.heap[g]? = some (.cells cs t (0, 0))) (hne : e ≠ t) : some g ≠ v.ownBlock := by
  rcases h.2 with ⟨rfl, _⟩ | ⟨g', cap, cur, rfl, _, hh, _⟩
  · simp [Value.ownBlock]
  · intro he
    have : g = g' := by simpa [Value.ownBlock] using he
    subst this
    rw [hg] at hh
    injection hh with hh
    injection hh with _ ht
    exact hne ht.symm
theorem blk_set {w : World} {g : Nat} {t : TypeId} {cs : Array Value} (h : w.heap[g]? = some (.cells cs t (0, 0))) (i : Nat) (u : Value) : (w.setCell ⟨g, i, none⟩ u).heap[g]? = some (.cells (cs.setIfInBounds i u) t (0, 0)) := by
  simp [World.setCell, Array.getElem?_modify, h]
theorem blk_far {w : World} {g : Nat} {t : TypeId} {cs : Array Value} (h : w.heap[g]? = some (.cells cs t (0, 0))) {p : Addr} (hp : g ≠ p.block) (u : Value) : (w.setCell p u).heap[g]? = some (.cells cs t (0, 0)) := (Below.heap_setCell w p u g hp).trans h
theorem blk_lt {w : World} {g : Nat} {o : Obj} (h : w.heap[g]? = some o) : g < w.heap.size := (Array.getElem?_eq_some_iff.1 h).1
theorem blk_cell {w : World} {g : Nat} {t : TypeId} {cs : Array Value} (h : w.heap[g]? = some (.cells cs t (0, 0))) (i : Nat) : w.cell? ⟨g, i, none⟩ = cs[i]? := cell_of_row w g i cs t (0, 0) h
theorem blk_frozen {w : World} {g : Nat} {t : TypeId} {cs : Array Value} (h : w.heap[g]? = some (.cells cs t (0, 0))) (i : Nat) : w.frozen? ⟨g, i, none⟩ = false := by simp [World.frozen?, h]
theorem blk_grown {w w1 : World} {g : Nat} {o : Obj} {row : Option Nat} (h : w.heap[g]? = some o) (hg : w.grownBy w1 row) (hne : some g ≠ row) : w1.heap[g]? = some o := (hg.block g (blk_lt h) hne).trans h
theorem blk_ne {w : World} {g g' : Nat} {t t' : TypeId} {cs cs' : Array Value} (h : w.heap[g]? = some (.cells cs t (0, 0))) (h' : w.heap[g']? = some (.cells cs' t' (0, 0))) (hne : t ≠ t') : g ≠ g' := by
  rintro rfl
  rw [h] at h'
  injection h' with h'
  injection h' with _ ht
  exact hne ht
/-! ### 13. Two states at once: what a call on the state at block g (its row before: 'row') has turned -/
def KeepBut (w w' : World) (g : Nat) (row : Option Nat) : Prop := w.heap.size ≤ w'.heap.size ∧ ∀ i, i < w.heap.size → i ≠ g → some i ≠ row → w'.heap[i]? = w.heap[i]?
theorem KeepBut.refl (w : World) (g : Nat) (row : Option Nat) : KeepBut w w g row := ⟨Nat.le_refl _, fun _ _ _ _ => rfl⟩
theorem KeepBut.trans {w w1 w2 : World} {g : Nat} {row row1 : Option Nat} (h : KeepBut w w1 g row) (k : KeepBut w1 w2 g row1) (hr : row1 = row ∨ ∃ b, row1 = some b ∧ w.heap.size ≤ b) : KeepBut w w2 g row :=
  ⟨Nat.le_trans h.1 k.1, fun i hi hg hn => by
    refine (k.2 i (Nat.lt_of_lt_of_le hi h.1) hg ?_).trans (h.2 i hi hg hn)
    rcases hr with rfl | ⟨b, rfl, hb⟩
    · exact hn
    · intro e
      injection e with e
      omega⟩
/-- Another block, another row: they live on. -/
theorem KeepBut.blk {w w1 : World} {g g' : Nat} {row : Option Nat} {o : Obj} (h : KeepBut w w1 g row) (hb : w.heap[g']? = some o) (hg : g' ≠ g) (hr : some g' ≠ row) : w1.heap[g']? = some o := (h.2 g' (blk_lt hb) hg hr).trans hb
theorem KeepBut.own {w w1 : World} {g : Nat} {row : Option Nat} {base : Nat} {e : TypeId} {size n : Nat} {v : Value} {xs : List Value} (h : KeepBut w w1 g row) (ho : w.ownsRow base e size v n xs) (hg : v.ownBlock ≠ some g) (hr : v.ownBlock = none ∨ v.ownBlock ≠ row) : w1.ownsRow base e size v n xs := by
  obtain ⟨h1, h2⟩ := ho
  refine ⟨h1, ?_⟩
  rcases h2 with h2 | ⟨b, cap, cur, rfl, hb, hh, r⟩
  · exact .inl h2
  · refine .inr ⟨b, cap, cur, rfl, hb, h.blk hh ?_ ?_, r⟩
    · intro e
      exact hg (by rw [← e]; rfl)
    · rcases hr with hr | hr
      · simp [Value.ownBlock] at hr
      · exact hr
/-! ### 10b. From some number of rounds on -/
def Ev {α : Type} (g : Nat → Option α) (r : α) : Prop := ∃ K, ∀ k, K ≤ k → g k = some r
theorem Ev.of {α : Type} {g : Nat → Option α} {r : α} (hg : ∀ k, LeO (g k) (g (k + 1))) {k : Nat} (h : g k = some r) : Ev g r := ⟨k, fun _ hk => at_rounds hg hk h⟩
theorem Ev.now {α : Type} (r : α) : Ev (fun _ => some r) r := ⟨0, fun _ _ => rfl⟩
theorem Ev.rounds {α : Type} {g : Nat → Option α} {r : α} (h : Ev g r) : ∃ k, g k = some r := by
  obtain ⟨K, h⟩ := h
  exact ⟨K, h K (Nat.le_refl _)⟩
theorem Ev.bind {α β : Type} {g : Nat → Option α} {f : Nat → α → Option β} {a : α} {r : β} (h : Ev g a) (k : Ev (fun n => f n a) r) : Ev (fun n => (g n).bind (f n)) r := by
  obtain ⟨K, h⟩ := h
  obtain ⟨K', k⟩ := k
  refine ⟨max K K', fun n hn => ?_⟩
  have h1 := h n (by omega)
  have h2 := k n (by omega)
  simp only [h1, Option.bind_some]
  exact h2
/-- One round of a loop. -/
theorem Ev.step {α : Type} {g f : Nat → Option α} {r : α} (h : ∀ k, g (k + 1) = f k) (k : Ev f r) : Ev g r := by
  obtain ⟨K, k⟩ := k
  refine ⟨K + 1, fun n hn => ?_⟩
  obtain ⟨m, rfl⟩ : ∃ m, n = m + 1 := ⟨n - 1, by omega⟩
  rw [h]
  exact k m (by omega)
theorem Ev.congr {α : Type} {g f : Nat → Option α} {r : α} (h : ∀ k, g k = f k) (k : Ev f r) : Ev g r := by
  obtain ⟨K, k⟩ := k
  exact ⟨K, fun n hn => (h n).trans (k n hn)⟩
/-! ### 14. append as_ one step of a region that draws its order: for 'go_region_law' (and a region walked by hand) -/
section
variable {P : Program} {ops : Array Oper} {o : Oper} {a : Act} {Q : Exit → Act → World → Prop} {K : Act → World → Prop}
end
/-! ### 15. A row's base may be lowered -/
theorem own_weaken {w : World} {base base' : Nat} {e : TypeId} {size n : Nat} {v : Value} {xs : List Value} (h : w.ownsRow base e size v n xs) (hb : base' ≤ base) : w.ownsRow base' e size v n xs := by
  obtain ⟨h1, h2⟩ := h
  refine ⟨h1, ?_⟩
  rcases h2 with h2 | ⟨g, cap, cur, rfl, hg, r⟩
  · exact .inl h2
  · exact .inr ⟨g, cap, cur, rfl, Nat.le_trans hb hg, r⟩
/-! ### 16. Parts 3 to 9 for ANY element of one cell: 'enc' (Value.int k, Value.string, Value.bool), a default 'd' -/
section
variable {α : Type} {enc : α → Value} {d : α}
def encs (enc : α → Value) (xs : List α) : List Value := xs.map enc
def rdOf (d : α) (xs : List α) (i : Int) : α := xs.getD i.toNat d
theorem encs_length (xs : List α) : (encs enc xs).length = xs.length := by simp [encs]
theorem encs_get (xs : List α) (j : Nat) (h : j < xs.length) : (encs enc xs)[j]? = some (enc (xs.getD j d)) := by
  simp [encs, List.getElem?_eq_getElem h, List.getD_eq_getElem?_getD]
def ReadsOf (enc : α → Value) (d : α) (w : World) (A : Option Addr) (n : Nat) (xs : List α) : Prop :=
  xs.length = n ∧ n ≤ 9223372036854775807 ∧ (0 < n → ∃ ad, A = some ad ∧ ∀ j, j < n → w.cell? (ad.add j) = some (enc (xs.getD j d)))
theorem ReadsOf.at_ {w : World} {A : Option Addr} {n : Nat} {xs : List α} (h : ReadsOf enc d w A n xs) (i : Int) (h0 : 0 ≤ i) (h1 : i < n) : ∃ ad, A = some ad ∧ w.cell? (ad.add i.toNat) = some (enc (rdOf d xs i)) := by
  obtain ⟨ad, e, hc⟩ := h.2.2 (by omega)
  exact ⟨ad, e, hc _ (by omega)⟩
theorem ReadsOf.below {w w1 : World} {A : Option Addr} {n : Nat} {xs : List α} (h : ReadsOf enc d w A n xs) (hb : Below w.heap.size w w1) : ReadsOf enc d w1 A n xs :=
  ⟨h.1, h.2.1, fun hn => by
    obtain ⟨ad, e, hc⟩ := h.2.2 hn
    exact ⟨ad, e, fun j hj => pw_cell_below hb (hc j hj)⟩⟩
theorem ReadsOf.take_ {w : World} {A : Option Addr} {n : Nat} {xs : List α} (h : ReadsOf enc d w A n xs) (i : Nat) (hi : i ≤ n) : ReadsOf enc d w A i (xs.take i) := by
  refine ⟨by rw [List.length_take, h.1]; omega, by have := h.2.1; omega, fun hp => ?_⟩
  obtain ⟨ad, e, hc⟩ := h.2.2 (by omega)
  refine ⟨ad, e, fun j hj => ?_⟩
  rw [hc j (by omega)]
  simp [List.getD_eq_getElem?_getD, hj]
theorem ReadsOf.drop_ {w : World} {A : Option Addr} {n c : Nat} {xs : List α} (h : ReadsOf enc d w A n xs) (i : Nat) (hi : i ≤ n) (hc : n ≤ c) : ReadsOf enc d w (if c = i then A else A.map (·.add i)) (n - i) (xs.drop i) := by
  refine ⟨by rw [List.length_drop, h.1], by have := h.2.1; omega, fun hp => ?_⟩
  obtain ⟨ad, rfl, hcell⟩ := h.2.2 (by omega)
  rw [if_neg (by omega)]
  refine ⟨ad.add i, rfl, fun j hj => ?_⟩
  have ha : (ad.add i).add j = ad.add (i + j) := by
    unfold Addr.add
    by_cases h1 : i = 0 <;> by_cases h2 : j = 0 <;> simp [h1, h2, Nat.add_assoc]
  rw [ha, hcell (i + j) (by omega)]
  simp [List.getD_eq_getElem?_getD, List.getElem?_drop]
theorem own_at_of {W : World} {base g n cap : Nat} {e : TypeId} {xs : List α} (h : W.ownsRow base e 1 (.slice (some ⟨g, 0, none⟩) n cap) n (encs enc xs)) (i : Int) (h0 : 0 ≤ i) (h1 : i < n) :
    W.cell? ⟨g, i.toNat, none⟩ = some (enc (rdOf d xs i)) ∧ W.frozen? ⟨g, i.toNat, none⟩ = false := by
  have hl : xs.length = n := by have := h.1; simp [encs] at this; exact this
  constructor
  · have hc := h.cells (g := g) rfl i.toNat _ (encs_get (d := d) xs i.toNat (by omega))
    rwa [add_plain] at hc
  · rcases h.2 with ⟨h', _⟩ | ⟨g', cap', cur, h', _, hh, _⟩
    · cases h'
    · have : g = g' := by injection h' with h'; injection h' with h'; injection h' with h'
      subst this
      simp [World.frozen?, hh]
theorem own_store_of {W : World} {base g n cap : Nat} {e : TypeId} {xs : List α} (h : W.ownsRow base e 1 (.slice (some ⟨g, 0, none⟩) n cap) n (encs enc xs)) (i : Int) (x : α) :
    (W.setCell ⟨g, i.toNat, none⟩ (enc x)).ownsRow base e 1 (.slice (some ⟨g, 0, none⟩) n cap) n (encs enc (xs.set i.toNat x)) ∧ W.grownBy (W.setCell ⟨g, i.toNat, none⟩ (enc x)) (some g) := by
  have hs := h.stored i.toNat (enc x)
  have he : (encs enc xs).set i.toNat (enc x) = encs enc (xs.set i.toNat x) := by simp [encs, List.map_set]
  rwa [he] at hs
end
section
variable {α : Type} {P : Program} {ops : Array Oper} {rest : List Oper} {o : Oper} {a : Act} {Q : Exit → Act → World → Prop}
theorem print_append_row_of {w0 W : World} (enc : α → Value) (d : α) (base : Nat) (hgd : o.guard = none) (s x : Operand) (t e : TypeId) (z : Value) (bytes : Nat)
    (ho : o.op = .call { callee := .builtin .append, args := #[s, x], argTypes := #[t, t] })
    (ht : P.underlying t = some (.slice e)) (hinfo : (P.info? e).map (fun i => (i.zero, i.size, i.bytes)) = some (some z, 1, bytes)) (hz : z.cells.size = 1) (hb0 : 0 < bytes) (h1 : ∀ x : α, (enc x).oneCell' = true)
    (v : Value) (xs ys : List α) (A : Option Addr) (m c : Nat) (hs : a.eval s = v) (hx : a.eval x = .slice A m c)
    (HO : W.ownsRow base e 1 v xs.length (encs enc xs)) (HR : ReadsOf enc d W A m ys) (HB : Below base w0 W) (hbase : base ≤ W.heap.size) (hl : (xs.length + m) * bytes ≤ 140737488355328)
    (h : ∀ v1 w1, w1.ownsRow base e 1 v1 (xs ++ ys).length (encs enc (xs ++ ys)) → Below base w0 w1 → W.grownBy w1 v.ownBlock → (v1.ownBlock = v.ownBlock ∨ ∃ b, v1.ownBlock = some b ∧ W.heap.size ≤ b) → wpList P ops Q rest (a.put o.dst v1) w1) :
    wpList P ops Q (o :: rest) a W := by
  obtain ⟨i0, hi, hzz⟩ := Option.map_eq_some_iff.1 hinfo
  simp only [Prod.mk.injEq] at hzz
  obtain ⟨hz0, hz1, hz2⟩ := hzz
  have hm : ys.length = m := HR.1
  have hlen : xs.length + m ≤ 140737488355328 := Nat.le_trans (Nat.le_mul_of_pos_right _ hb0) hl
  have hrun : ∃ v1 w1, (Builtin.append_ #[t, t] o.type #[v, .slice A m c]).run P W = .ok v1 w1 ∧ w1.ownsRow base e 1 v1 (xs ++ ys).length (encs enc (xs ++ ys)) ∧ W.grownBy w1 v.ownBlock ∧ (v1.ownBlock = v.ownBlock ∨ v1.ownBlock = some W.heap.size) := by
    rcases A with _ | ad
    · have h0 : m = 0 := by
        rcases Nat.eq_zero_or_pos m with h0 | h0
        · exact h0
        · obtain ⟨ad, h, _⟩ := HR.2.2 h0
          cases h
      subst h0
      obtain rfl : ys = [] := List.eq_nil_of_length_eq_zero hm
      refine ⟨v, W, ?_, by simpa using HO, World.grownBy.refl W _, .inl rfl⟩
      rcases HO.2 with ⟨rfl, hn⟩ | ⟨g, cap, cur, rfl, _, _, hnc, _⟩
      · simp [Builtin.append_, run_underlying ht, sizeOf, typeInfo, hi, Builtin.lenOf, Builtin.firstCells]
      · simp [Builtin.append_, run_underlying ht, sizeOf, typeInfo, hi, Builtin.lenOf, Builtin.firstCells, hnc, storeCells]
    · have hcells : ∀ j u, (encs enc ys)[j]? = some u → W.cell? (ad.add j) = some u := by
        intro j u hu
        have hj : j < ys.length := by
          rcases Nat.lt_or_ge j ys.length with h | h
          · exact h
          · simp [encs, List.getElem?_eq_none h] at hu
        obtain ⟨ad', h', hc⟩ := HR.2.2 (by omega)
        injection h' with h'
        subst h'
        rw [encs_get (d := d) ys j hj] at hu
        rw [← hu]
        exact hc j (by omega)
      obtain ⟨v1, w1, hr, h2, h3, _, h5⟩ := run_append_own_at (P := P) W base t o.type e i0 z 1 bytes ht hi hz0 hz1 hz2 hz (by omega) v xs.length (encs enc xs) HO ad m c (encs enc ys) (by simp [encs, hm]) hcells
        (by intro u hu; simp only [encs, List.mem_map] at hu; obtain ⟨q, _, rfl⟩ := hu; exact h1 q) (by simp only [maxLen]; omega) hl hbase
      exact ⟨v1, w1, hr, by simpa [encs, hm] using h2, h3, h5⟩
  obtain ⟨v1, w1, hr, hown, hg, hat⟩ := hrun
  refine wpList_plain hgd fun K hK => ?_
  unfold Oper.wp execOp
  simp only [ho, resolve, invoke, builtin, Sem.run_bind, Sem.run_pure, Result.andThen_ok, List.map_toArray, List.map_cons, List.map_nil, hs, hx, hr]
  refine hK _ _ (h v1 w1 hown (HB.grown hg hbase (own_base HO)) hg ?_)
  rcases hat with hat | hat
  · exact .inl hat
  · exact .inr ⟨_, hat, Nat.le_refl _⟩
end

/-! ### 17. Rows of one element type held at once: no two share a block -/
/-! ### 18. A block behind a new one; behind a draw -/
theorem blk_alloc {w : World} {g : Nat} {o : Obj} (h : w.heap[g]? = some o) (o' : Obj) : (w.alloc o').heap[g]? = some o := (Below.heap_alloc w o' g (blk_lt h)).trans h
theorem blk_below {w w1 : World} {g : Nat} {o : Obj} (h : w.heap[g]? = some o) (hb : Below w.heap.size w w1) : w1.heap[g]? = some o := (hb.block g (blk_lt h)).trans h
theorem blk_new (w : World) (o : Obj) : (w.alloc o).heap[w.heap.size]? = some o := heap_alloc_new w o
/-! ### 19. Results that lie in memory beside others -/
section
variable {P : Program}
end
/-! ### 20. Rows of elements of any kind: R is what an element's cells say -/
theorem own_le {w : World} {base n m c size : Nat} {e : TypeId} {A : Option Addr} {xs : List Value} (h : w.ownsRow base e size (.slice A m c) n xs) : m ≤ c := by
  rcases h.2 with ⟨he, _⟩ | ⟨g, cap, cur, he, _, _, hnc, _⟩
  · injection he with _ h2 h3
    omega
  · injection he with _ h2 h3
    omega
def OwnRow {α : Type} (R : α → List Value → Prop) (e : TypeId) (size : Nat) (w : World) (base : Nat) (v : Value) (ps : List α) : Prop :=
  ∃ inner, w.ownsRow base e size v ps.length inner ∧ Reps R size ps inner
section
variable {α : Type} {R R' : α → List Value → Prop} {e : TypeId} {size : Nat} {w w1 : World} {base : Nat} {v : Value} {ps : List α}
theorem OwnRow.none_ (R : α → List Value → Prop) (e : TypeId) (size : Nat) (w : World) (base : Nat) : OwnRow R e size w base (.slice none 0 0) [] := ⟨[], own_nil _ _ _ _, Reps.none _ _⟩
theorem OwnRow.imp_ (h : OwnRow R e size w base v ps) (hR : ∀ p c, R p c → R' p c) : OwnRow R' e size w base v ps := by
  obtain ⟨inner, ho, hr⟩ := h
  exact ⟨inner, ho, hr.imp_ hR⟩
theorem OwnRow.below (h : OwnRow R e size w base v ps) (hb : Below w.heap.size w w1) : OwnRow R e size w1 base v ps := by
  obtain ⟨inner, ho, hr⟩ := h
  exact ⟨inner, pw_own_below ho hb, hr⟩
theorem OwnRow.other (h : OwnRow R e size w base v ps) {row : Option Nat} (hg : w.grownBy w1 row) (hne : v.ownBlock = none ∨ v.ownBlock ≠ row) : OwnRow R e size w1 base v ps := by
  obtain ⟨inner, ho, hr⟩ := h
  exact ⟨inner, own_other ho hg hne, hr⟩
theorem OwnRow.reads (h : OwnRow R e size w base v ps) : ∃ A c, v = .slice A ps.length c ∧ ps.length ≤ c ∧ ReadsRow R size w A ps.length ps := by
  obtain ⟨inner, ho, hr⟩ := h
  obtain ⟨A, c, rfl, hrow⟩ := own_reads_row ho hr rfl
  exact ⟨A, c, rfl, own_le ho, hrow⟩
theorem OwnRow.ne_block (h : OwnRow R e size w base v ps) {g : Nat} {t : TypeId} {cells : Array Value} (hb : w.heap[g]? = some (.cells cells t (0, 0))) (ht : e ≠ t) : some g ≠ v.ownBlock := by
  obtain ⟨inner, ho, hr⟩ := h
  exact own_ne ho hb ht
/-- A literal: the elements' cells one behind the other. -/
theorem OwnRow.lit (W : World) (base : Nat) {inner : List Value} (hr : Reps R size ps inner) (hb : base ≤ W.heap.size) (hm : ps.length ≤ 9223372036854775807) :
    OwnRow R e size (W.alloc (.cells inner.toArray e)) base (.slice (some ⟨W.heap.size, 0, none⟩) ps.length ps.length) ps := by
  have h := World.ownsRow_lit (base := base) (e := e) (size := size) W inner.toArray ps.length hb (by simpa [maxLen] using hm) (by simpa using hr.1)
  exact ⟨inner, by simpa using h, hr⟩
end
section
variable {P : Program} {ops : Array Oper} {rest : List Oper} {o : Oper} {a : Act} {Q : Exit → Act → World → Prop} {α : Type} {R : α → List Value → Prop}
/-- append(v, x): x's cells are cs. R is that of the world AHEAD; move it over hg ('OwnRow.imp_'). -/
theorem OwnRow.append {w0 W : World} (base : Nat) (hgd : o.guard = none) (s x : Operand) (t e : TypeId) (z : Value) (size bytes : Nat)
    (ho : o.op = .call { callee := .builtin .append, args := #[s, x], argTypes := #[t, t] })
    (ht : P.underlying t = some (.slice e)) (hinfo : (P.info? e).map (fun i => (i.zero, i.size, i.bytes)) = some (some z, size, bytes)) (hz : z.cells.size = size) (hs0 : 0 < size) (hb0 : 0 < bytes)
    (v : Value) (ps : List α) (p : α) (cs : List Value) (hs : a.eval s = v) (hx : a.eval x = .slice (some ⟨W.heap.size, 0, none⟩) 1 1) (hp : R p cs) (hcs : cs.length = size) (h1 : ∀ u ∈ cs, u.oneCell' = true)
    (HO : OwnRow R e size W base v ps) (HB : Below base w0 W) (hbase : base ≤ W.heap.size) (hl : (ps.length + 1) * bytes ≤ 140737488355328)
    (h : ∀ v1 w1, OwnRow R e size w1 base v1 (ps ++ [p]) → Below base w0 w1 → W.grownBy w1 v.ownBlock → (v1.ownBlock = v.ownBlock ∨ ∃ b, v1.ownBlock = some b ∧ W.heap.size ≤ b) → wpList P ops Q rest (a.put o.dst v1) w1) :
    wpList P ops Q (o :: rest) a (W.alloc (.cells cs.toArray e)) := by
  obtain ⟨inner, hown, hr⟩ := HO
  refine print_append_cells base hgd s x t e z size bytes ho ht hinfo hz hs0 hb0 v ps.length inner cs hs hx hcs h1 hown HB hbase hl ?_
  intro v1 w1 hown1 hb1 hg1 hat1
  exact h v1 w1 ⟨inner ++ cs, by rw [List.length_append, List.length_singleton]; exact hown1, hr.snoc hp hcs⟩ hb1 hg1 hat1
end
section
variable {P : Program} {ops : Array Oper} {o : Oper} {a : Act} {Q : Exit → Act → World → Prop} {K : Act → World → Prop} {α : Type} {R : α → List Value → Prop}
end
/-! ### 21. Cuts of a slice that came in, lengths spelled as_ the lists' -/
section
variable {α : Type} {P : Program}
end

/-! ### 22. append([]byte, s...), s a string; behind 'at_builtin'. (No word on where the new row lies: two rows of bytes at once don't go by it.) -/
section
variable {P : Program} {ops : Array Oper} {rest : List Oper} {o : Oper} {a : Act} {Q : Exit → Act → World → Prop}
theorem print_append_str {w0 W : World} (base : Nat) (hgd : o.guard = none) (s x : Operand) (t u e : TypeId)
    (ho : o.op = .call { callee := .builtin .append, args := #[s, x], argTypes := #[t, u] })
    (ht : P.underlying t = some (.slice e)) (hu : P.underlying u = some .string) (hinfo : (P.info? e).map (fun i => (i.zero, i.size, i.bytes)) = some (some (.int .u8 0), 1, 1))
    (v : Value) (xs : List Int) (y : ByteArray) (hs : a.eval s = v) (hx : a.eval x = .string y)
    (HO : W.ownsRow base e 1 v xs.length (nums .u8 xs)) (HB : Below base w0 W) (hbase : base ≤ W.heap.size) (hl : xs.length + y.size ≤ 140737488355328)
    (h : ∀ v1 w1, w1.ownsRow base e 1 v1 (xs ++ bytesOf y).length (nums .u8 (xs ++ bytesOf y)) → Below base w0 w1 → W.grownBy w1 v.ownBlock → wpList P ops Q rest (a.put o.dst v1) w1) :
    wpList P ops Q (o :: rest) a W := by
  obtain ⟨i0, hi, hzz⟩ := Option.map_eq_some_iff.1 hinfo
  simp only [Prod.mk.injEq] at hzz
  obtain ⟨hz0, hz1, hz2⟩ := hzz
  refine Lib.wpList_append_own_string W hgd s x t u ho base e i0 ht hu hi hz0 hz1 hz2 v xs.length (nums .u8 xs) hs HO y hx (by simp only [maxLen]; omega) hl hbase ?_
  intro v1 w1 hown hg _
  have hl2 : (xs ++ bytesOf y).length = xs.length + y.size := by rw [List.length_append, bytesOf_length]
  have hc : nums .u8 (xs ++ bytesOf y) = nums .u8 xs ++ Lib.strCells y := by
    rw [nums_append]
    congr 1
    simp [nums, bytesOf, Lib.strCells]
  exact h v1 w1 (by rw [hl2, hc]; exact hown) (HB.grown hg hbase (own_base HO)) hg
end
/-! ### 23. KINDS: what a value's cells say, read (K) and made (M), kind by kind; every mover proved once -/
/-- ok: which blocks the rows inside may be ('not the row that is being written'). -/
structure Kd (α : Type) where
  sz : Nat
  E : List Nat
  K : World → α → List Value → Prop
  M : World → Nat → (Nat → Prop) → α → List Value → Prop
  K_len : ∀ {w x cs}, K w x cs → cs.length = sz
  K_one : ∀ {w x cs}, K w x cs → ∀ u ∈ cs, u.oneCell' = true
  K_below : ∀ {w w1 : World} {x cs}, Below w.heap.size w w1 → K w x cs → K w1 x cs
  K_of_M : ∀ {w base ok x cs}, M w base ok x cs → K w x cs
  M_mono : ∀ {w base ok ok' x cs}, (∀ k, ok k → ok' k) → M w base ok x cs → M w base ok' x cs
  M_bound : ∀ {w : World} {base ok x cs}, M w base ok x cs → M w base (fun k => ok k ∧ base ≤ k ∧ k < w.heap.size ∧ ∃ q, q ∈ E ∧ ∃ cells, w.heap[k]? = some (.cells cells q (0, 0))) x cs
  M_move : ∀ {w w1 : World} {base ok x cs}, (∀ k, ok k → w1.heap[k]? = w.heap[k]?) → M w base ok x cs → M w1 base ok x cs
  M_lower : ∀ {w base base' ok x cs}, base' ≤ base → M w base ok x cs → M w base' ok x cs

theorem own_move {w w1 : World} {base : Nat} {e : TypeId} {size n : Nat} {v : Value} {xs : List Value} (h : w.ownsRow base e size v n xs) (hm : ∀ k, v.ownBlock = some k → w1.heap[k]? = w.heap[k]?) : w1.ownsRow base e size v n xs := by
  obtain ⟨h1, h2⟩ := h
  refine ⟨h1, ?_⟩
  rcases h2 with h2 | ⟨g, cap, cur, rfl, hg, hh, r⟩
  · exact .inl h2
  · exact .inr ⟨g, cap, cur, rfl, hg, (hm g (by simp [Value.ownBlock])).trans hh, r⟩
theorem own_typed {w : World} {base : Nat} {e : TypeId} {size n : Nat} {v : Value} {xs : List Value} (h : w.ownsRow base e size v n xs) (k : Nat) (hk : v.ownBlock = some k) : ∃ cells, w.heap[k]? = some (.cells cells e (0, 0)) := by
  rcases h.2 with ⟨rfl, _⟩ | ⟨g, cap, cur, rfl, hg, hh, r⟩
  · simp [Value.ownBlock] at hk
  · have : g = k := by simpa [Value.ownBlock] using hk
    subst this
    exact ⟨cur, hh⟩

namespace Kd
/-- A row of elements that is read. -/
def C {α : Type} (d : Kd α) (w : World) (A : Option Addr) (n : Nat) (xs : List α) : Prop := ReadsRow (d.K w) d.sz w A n xs
/-- A row of elements (type e) of the call's own; the elements' rows are not this one. -/
def R {α : Type} (d : Kd α) (e : Nat) (w : World) (base : Nat) (ok : Nat → Prop) (v : Value) (xs : List α) : Prop :=
  (∀ k, v.ownBlock = some k → ok k) ∧ OwnRow (d.M w base (fun k => ok k ∧ some k ≠ v.ownBlock)) e d.sz w base v xs
section
variable {α : Type} {d : Kd α} {e : Nat} {w w1 : World} {base : Nat} {ok ok' : Nat → Prop} {v : Value} {xs : List α}
theorem C_below {A : Option Addr} {n : Nat} (h : d.C w A n xs) (hb : Below w.heap.size w w1) : d.C w1 A n xs := ReadsRow.imp_ h hb (fun _ _ hp => d.K_below hb hp)
theorem R_nil (d : Kd α) (e : Nat) (w : World) (base : Nat) (ok : Nat → Prop) : d.R e w base ok (.slice none 0 0) [] := ⟨fun k hk => by simp [Value.ownBlock] at hk, OwnRow.none_ _ _ _ _ _⟩
theorem R_mono (h : d.R e w base ok v xs) (hok : ∀ k, ok k → ok' k) : d.R e w base ok' v xs := ⟨fun k hk => hok k (h.1 k hk), h.2.imp_ (fun _ _ hp => d.M_mono (fun k hk => ⟨hok k hk.1, hk.2⟩) hp)⟩
theorem R_bound (h : d.R e w base ok v xs) : d.R e w base (fun k => ok k ∧ base ≤ k ∧ k < w.heap.size ∧ ∃ q, q ∈ e :: d.E ∧ ∃ cells, w.heap[k]? = some (.cells cells q (0, 0))) v xs := by
  obtain ⟨h0, inner, ho, hr⟩ := h
  refine ⟨fun k hk => ?_, inner, ho, hr.imp_ (fun _ _ hp => d.M_mono (fun k hk => ?_) (d.M_bound hp))⟩
  · obtain ⟨cells, hc⟩ := own_typed ho k hk
    exact ⟨h0 k hk, own_base ho k hk, own_lt ho k hk, e, List.mem_cons_self, cells, hc⟩
  · obtain ⟨⟨h1, h2⟩, h3, h4, q, hq, hc⟩ := hk
    exact ⟨⟨h1, h3, h4, q, List.mem_cons_of_mem _ hq, hc⟩, h2⟩
theorem R_move (h : d.R e w base ok v xs) (hm : ∀ k, ok k → w1.heap[k]? = w.heap[k]?) : d.R e w1 base ok v xs := by
  obtain ⟨h0, inner, ho, hr⟩ := h
  exact ⟨h0, inner, own_move ho (fun k hk => hm k (h0 k hk)), hr.imp_ (fun _ _ hp => d.M_move (fun k hk => hm k hk.1) hp)⟩
theorem R_lower {base' : Nat} (h : d.R e w base ok v xs) (hb : base' ≤ base) : d.R e w base' ok v xs := by
  obtain ⟨h0, inner, ho, hr⟩ := h
  exact ⟨h0, inner, own_weaken ho hb, hr.imp_ (fun _ _ hp => d.M_lower hb hp)⟩
/-- Any mover: what is ok, and a block of w's, stays. -/
theorem R_step (h : d.R e w base ok v xs) (hm : ∀ k, ok k → k < w.heap.size → w1.heap[k]? = w.heap[k]?) : d.R e w1 base ok v xs :=
  R_mono (R_move (R_bound h) (fun k hk => hm k hk.1 hk.2.2.1)) (fun _ hk => hk.1)
theorem R_below (h : d.R e w base ok v xs) (hb : Below w.heap.size w w1) : d.R e w1 base ok v xs := R_step h (fun k _ hk => hb.block k hk)
/-- A store into another block. -/
theorem R_far (h : d.R e w base ok v xs) {p : Addr} (hok : ∀ k, ok k → k ≠ p.block) (u : Value) : d.R e (w.setCell p u) base ok v xs := R_step h (fun k ho _ => Below.heap_setCell w p u k (hok k ho))
/-- By types alone: the rows inside are none of a block of type t. -/
theorem R_types (h : d.R e w base ok v xs) {g t : Nat} {cells : Array Value} (hb : w.heap[g]? = some (.cells cells t (0, 0))) (ht : ∀ q, q ∈ e :: d.E → q ≠ t) : d.R e w base (fun k => ok k ∧ k ≠ g) v xs :=
  R_mono (R_bound h) (fun k hk => ⟨hk.1, by
    obtain ⟨_, _, _, q, hq, cells', hc⟩ := hk
    rintro rfl
    rw [hc] at hb
    injection hb with hb
    injection hb with _ hb
    exact ht q hq hb⟩)
theorem R_reads (h : d.R e w base ok v xs) : ∃ A c, v = .slice A xs.length c ∧ xs.length ≤ c ∧ d.C w A xs.length xs := by
  obtain ⟨A, c, he, hl, hr⟩ := OwnRow.reads h.2
  exact ⟨A, c, he, hl, hr.imp_ (Below.refl _ _) (fun _ _ hp => d.K_of_M hp)⟩
theorem R_slice (h : d.R e w base ok v xs) : ∃ A c, v = .slice A xs.length c := by
  obtain ⟨A, c, he, _⟩ := R_reads h
  exact ⟨A, c, he⟩
theorem R_own (h : d.R e w base ok v xs) : ∃ inner, w.ownsRow base e d.sz v xs.length inner := by
  obtain ⟨_, inner, ho, _⟩ := h
  exact ⟨inner, ho⟩
theorem R_ne (h : d.R e w base ok v xs) {g t : Nat} {cells : Array Value} (hb : w.heap[g]? = some (.cells cells t (0, 0))) (ht : e ≠ t) : some g ≠ v.ownBlock := OwnRow.ne_block h.2 hb ht
end

/-! #### the kinds -/
def scalar {α : Type} (enc : α → Value) (h1 : ∀ x, (enc x).oneCell' = true) : Kd α where
  sz := 1
  E := []
  K := fun _ x cs => cs = [enc x]
  M := fun _ _ _ x cs => cs = [enc x]
  K_len := fun h => by rw [h]; rfl
  K_one := fun h u hu => by
    rw [h] at hu
    rw [List.mem_singleton.1 hu]
    exact h1 _
  K_below := fun _ h => h
  K_of_M := fun h => h
  M_mono := fun _ h => h
  M_bound := fun h => h
  M_move := fun _ h => h
  M_lower := fun _ h => h
def int (k : IntKind) : Kd Int := scalar (Value.int k) (fun _ => rfl)
def bool : Kd Bool := scalar Value.bool (fun _ => rfl)
def string : Kd ByteArray := scalar Value.string (fun _ => rfl)
def slice {α : Type} (e : Nat) (d : Kd α) : Kd (List α) where
  sz := 1
  E := e :: d.E
  K := fun w xs cs => ∃ A c, cs = [.slice A xs.length c] ∧ xs.length ≤ c ∧ d.C w A xs.length xs
  M := fun w base ok xs cs => ∃ v, cs = [v] ∧ d.R e w base ok v xs
  K_len := by
    rintro w x cs ⟨A, c, rfl, _⟩
    rfl
  K_one := by
    rintro w x cs ⟨A, c, rfl, _⟩ u hu
    rw [List.mem_singleton.1 hu]
    rfl
  K_below := by
    rintro w w1 x cs hb ⟨A, c, rfl, hl, hr⟩
    exact ⟨A, c, rfl, hl, C_below hr hb⟩
  K_of_M := by
    rintro w base ok x cs ⟨v, rfl, h⟩
    obtain ⟨A, c, rfl, hl, hr⟩ := R_reads h
    exact ⟨A, c, rfl, hl, hr⟩
  M_mono := by
    rintro w base ok ok' x cs hok ⟨v, rfl, h⟩
    exact ⟨v, rfl, R_mono h hok⟩
  M_bound := by
    rintro w base ok x cs ⟨v, rfl, h⟩
    exact ⟨v, rfl, R_bound h⟩
  M_move := by
    rintro w w1 base ok x cs hm ⟨v, rfl, h⟩
    exact ⟨v, rfl, R_move h hm⟩
  M_lower := by
    rintro w base base' ok x cs hb ⟨v, rfl, h⟩
    exact ⟨v, rfl, R_lower h hb⟩
/-- Two in line. -/
def pair {α β : Type} (a : Kd α) (b : Kd β) : Kd (α × β) where
  sz := a.sz + b.sz
  E := a.E ++ b.E
  K := fun w x cs => ∃ c0 c1, cs = c0 ++ c1 ∧ a.K w x.1 c0 ∧ b.K w x.2 c1
  M := fun w base ok x cs => ∃ c0 c1, cs = c0 ++ c1 ∧ a.M w base ok x.1 c0 ∧ b.M w base ok x.2 c1
  K_len := by
    rintro w x cs ⟨c0, c1, rfl, h0, h1⟩
    rw [List.length_append, a.K_len h0, b.K_len h1]
  K_one := by
    rintro w x cs ⟨c0, c1, rfl, h0, h1⟩ u hu
    rcases List.mem_append.1 hu with hu | hu
    · exact a.K_one h0 u hu
    · exact b.K_one h1 u hu
  K_below := by
    rintro w w1 x cs hb ⟨c0, c1, rfl, h0, h1⟩
    exact ⟨c0, c1, rfl, a.K_below hb h0, b.K_below hb h1⟩
  K_of_M := by
    rintro w base ok x cs ⟨c0, c1, rfl, h0, h1⟩
    exact ⟨c0, c1, rfl, a.K_of_M h0, b.K_of_M h1⟩
  M_mono := by
    rintro w base ok ok' x cs hok ⟨c0, c1, rfl, h0, h1⟩
    exact ⟨c0, c1, rfl, a.M_mono hok h0, b.M_mono hok h1⟩
  M_bound := by
    rintro w base ok x cs ⟨c0, c1, rfl, h0, h1⟩
    refine ⟨c0, c1, rfl, a.M_mono ?_ (a.M_bound h0), b.M_mono ?_ (b.M_bound h1)⟩
    · rintro k ⟨h2, h3, h4, q, hq, hc⟩
      exact ⟨h2, h3, h4, q, List.mem_append_left _ hq, hc⟩
    · rintro k ⟨h2, h3, h4, q, hq, hc⟩
      exact ⟨h2, h3, h4, q, List.mem_append_right _ hq, hc⟩
  M_move := by
    rintro w w1 base ok x cs hm ⟨c0, c1, rfl, h0, h1⟩
    exact ⟨c0, c1, rfl, a.M_move hm h0, b.M_move hm h1⟩
  M_lower := by
    rintro w base base' ok x cs hb ⟨c0, c1, rfl, h0, h1⟩
    exact ⟨c0, c1, rfl, a.M_lower hb h0, b.M_lower hb h1⟩
/-- A Lean structure by its fields. -/
def iso {α β : Type} (d : Kd α) (f : β → α) : Kd β where
  sz := d.sz
  E := d.E
  K := fun w x cs => d.K w (f x) cs
  M := fun w base ok x cs => d.M w base ok (f x) cs
  K_len := d.K_len
  K_one := d.K_one
  K_below := d.K_below
  K_of_M := d.K_of_M
  M_mono := d.M_mono
  M_bound := d.M_bound
  M_move := d.M_move
  M_lower := d.M_lower
/-- Nothing is of this kind: where the nesting's depth is used up. -/
def bot {α : Type} (sz : Nat) (E : List Nat) : Kd α where
  sz := sz
  E := E
  K := fun _ _ _ => False
  M := fun _ _ _ _ _ => False
  K_len := fun h => h.elim
  K_one := fun h => h.elim
  K_below := fun _ h => h
  K_of_M := fun h => h
  M_mono := fun _ h => h
  M_bound := fun h => h
  M_move := fun _ h => h
  M_lower := fun _ h => h
/-- A type nested in itself: nested at most n deep .. -/
def upto {α : Type} (F : Kd α → Kd α) (sz : Nat) (E : List Nat) : Nat → Kd α
  | 0 => bot sz E
  | n + 1 => F (upto F sz E n)
/-! #### an element of a row that is read; an element appended -/
theorem C_get {α : Type} {d : Kd α} {w : World} {A : Option Addr} {n : Nat} {xs : List α} (h : d.C w A n xs) (z : α) (i : Int) (h0 : 0 ≤ i) (h1 : i < n) :
    ∃ ad c, A = some ad ∧ c.length = d.sz ∧ d.K w (xs.getD i.toNat z) c ∧ ∀ j u, c[j]? = some u → w.cell? (ad.add (i.toNat * d.sz + j)) = some u := ReadsRow.get_ h z i h0 h1
/-- What an append leaves: the old elements' rows and the new one's are not the new row's block. -/
theorem R_appended {α : Type} {d : Kd α} {e base : Nat} {ok okp : Nat → Prop} {W w1 : World} {v v1 : Value} {xs : List α} {p : α} {inner cs : List Value} (h0 : ∀ k, v.ownBlock = some k → ok k) (hr : Reps (d.M W base (fun k => ok k ∧ some k ≠ v.ownBlock)) d.sz xs inner) (hp : d.M W base okp p cs) (hokp : ∀ k, okp k → ok k ∧ some k ≠ v.ownBlock) (hfresh : ∀ k, W.heap.size ≤ k → ok k)
    (hown : w1.ownsRow base e d.sz v1 (xs.length + 1) (inner ++ cs)) (hg : W.grownBy w1 v.ownBlock) (hat : v1.ownBlock = v.ownBlock ∨ ∃ b, v1.ownBlock = some b ∧ W.heap.size ≤ b) : d.R e w1 base ok v1 (xs ++ [p]) := by
  have hne : ∀ k, some k ≠ v.ownBlock → k < W.heap.size → some k ≠ v1.ownBlock := by
    intro k hk hlt
    rcases hat with hat | ⟨b, hb, hle⟩
    · rw [hat]; exact hk
    · rw [hb]
      intro he
      injection he with he
      omega
  have step : ∀ {q : α} {c : List Value} {o : Nat → Prop}, d.M W base o q c → (∀ k, o k → ok k ∧ some k ≠ v.ownBlock) → d.M w1 base (fun k => ok k ∧ some k ≠ v1.ownBlock) q c := by
    intro q c o hq ho
    have h1 := d.M_move (w1 := w1) (fun k hk => hg.block k hk.2.2.1 (ho k hk.1).2) (d.M_bound hq)
    exact d.M_mono (fun k hk => ⟨(ho k hk.1).1, hne k (ho k hk.1).2 hk.2.2.1⟩) h1
  refine ⟨fun k hk => ?_, inner ++ cs, by rw [List.length_append, List.length_singleton]; exact hown, ?_⟩
  · rcases hat with hat | ⟨b, hb, hle⟩
    · exact h0 k (hat ▸ hk)
    · rw [hb] at hk
      injection hk with hk
      exact hfresh k (by omega)
  · exact (hr.imp_ (fun _ _ hq => step hq (fun _ hk => hk))).snoc (step hp hokp) (d.K_len (d.K_of_M hp))
section
variable {P : Program} {ops : Array Oper} {rest : List Oper} {o : Oper} {a : Act} {Q : Exit → Act → World → Prop} {α : Type}
/-- append(v, x), behind 'at_builtin'; the goal's world is 'W.alloc' of the variadic's box; x's cells are cs, made (its rows satisfy okp). hfresh: a block that is new at W is ok. -/
theorem R_append (d : Kd α) {w0 W : World} (base : Nat) (hgd : o.guard = none) (s x : Operand) (t e : TypeId) (z : Value) (bytes : Nat)
    (ho : o.op = .call { callee := .builtin .append, args := #[s, x], argTypes := #[t, t] })
    (ht : P.underlying t = some (.slice e)) (hinfo : (P.info? e).map (fun i => (i.zero, i.size, i.bytes)) = some (some z, d.sz, bytes)) (hz : z.cells.size = d.sz) (hs0 : 0 < d.sz) (hb0 : 0 < bytes)
    (v : Value) (xs : List α) (p : α) (cs : List Value) (ok okp : Nat → Prop) (hs : a.eval s = v) (hx : a.eval x = .slice (some ⟨W.heap.size, 0, none⟩) 1 1) (hp : d.M W base okp p cs) (hokp : ∀ k, okp k → ok k ∧ some k ≠ v.ownBlock) (hfresh : ∀ k, W.heap.size ≤ k → ok k)
    (HO : d.R e W base ok v xs) (HB : Below base w0 W) (hbase : base ≤ W.heap.size) (hl : (xs.length + 1) * bytes ≤ 140737488355328)
    (h : ∀ v1 w1, d.R e w1 base ok v1 (xs ++ [p]) → Below base w0 w1 → W.grownBy w1 v.ownBlock → (v1.ownBlock = v.ownBlock ∨ ∃ b, v1.ownBlock = some b ∧ W.heap.size ≤ b) → wpList P ops Q rest (a.put o.dst v1) w1) :
    wpList P ops Q (o :: rest) a (W.alloc (.cells cs.toArray e)) := by
  obtain ⟨h0, inner, hown, hr⟩ := HO
  refine print_append_cells base hgd s x t e z d.sz bytes ho ht hinfo hz hs0 hb0 v xs.length inner cs hs hx (d.K_len (d.K_of_M hp)) (d.K_one (d.K_of_M hp)) hown HB hbase hl ?_
  intro v1 w1 hown1 hb1 hg1 hat1
  exact h v1 w1 (R_appended h0 hr hp hokp hfresh hown1 hg1 hat1) hb1 hg1 hat1
end
section
variable {P : Program} {ops : Array Oper} {o : Oper} {a : Act} {Q : Exit → Act → World → Prop} {Kc : Act → World → Prop} {α : Type}
end
/-- A row of scalars is the elder form. -/
theorem reps_scalar {α : Type} {enc : α → Value} (xs : List α) : Reps (fun (x : α) (cs : List Value) => cs = [enc x]) 1 xs (encs enc xs) := by
  refine ⟨by simp [encs], fun j p hj => ?_⟩
  obtain ⟨hl, hp⟩ := List.getElem?_eq_some_iff.1 hj
  have hl' : j < (encs enc xs).length := by rw [encs_length]; exact hl
  rw [Nat.mul_one, List.drop_eq_getElem_cons hl']
  simp [encs, hp]
theorem R_of_own {α : Type} {enc : α → Value} {h1 : ∀ x, (enc x).oneCell' = true} {e : Nat} {w : World} {base : Nat} {ok : Nat → Prop} {v : Value} {xs : List α} (ho : w.ownsRow base e 1 v xs.length (encs enc xs)) (hok : ∀ k, v.ownBlock = some k → ok k) : (scalar enc h1).R e w base ok v xs := ⟨hok, encs enc xs, ho, reps_scalar xs⟩
theorem own_of_R {α : Type} {enc : α → Value} {h1 : ∀ x, (enc x).oneCell' = true} {e : Nat} {w : World} {base : Nat} {ok : Nat → Prop} {v : Value} {xs : List α} (h : (scalar enc h1).R e w base ok v xs) : w.ownsRow base e 1 v xs.length (encs enc xs) := by
  obtain ⟨_, inner, ho, hr⟩ := h
  have : inner = encs enc xs := by
    apply List.ext_getElem?
    intro j
    rcases Nat.lt_or_ge j xs.length with hj | hj
    · have h2 := hr.2 j _ (List.getElem?_eq_getElem hj)
      have hl : j < inner.length := by have := hr.1; simp [scalar] at this; omega
      have h3 : (inner.drop (j * 1)).take 1 = [enc xs[j]] := h2
      rw [Nat.mul_one, List.drop_eq_getElem_cons hl] at h3
      have h4 : inner[j] = enc xs[j] := by
        have h5 := congrArg List.head? h3
        rw [List.take_succ_cons] at h5
        exact Option.some.inj h5
      rw [List.getElem?_eq_getElem hl, h4]
      simp [encs, List.getElem?_eq_getElem hj]
    · have h3 : inner.length = xs.length := by have := hr.1; simp [scalar] at this; omega
      rw [List.getElem?_eq_none (by omega), List.getElem?_eq_none (by rw [encs_length]; omega)]
  rw [← this]
  exact ho
theorem C_of_reads {α : Type} {enc : α → Value} {d : α} {h1 : ∀ x, (enc x).oneCell' = true} {w : World} {A : Option Addr} {n : Nat} {xs : List α} (h : ReadsOf enc d w A n xs) : (scalar enc h1).C w A n xs := by
  refine ⟨h.1, h.2.1, fun hn => ?_⟩
  obtain ⟨ad, e, hc⟩ := h.2.2 hn
  refine ⟨ad, e, fun j p hj => ⟨[enc p], rfl, rfl, fun i u hu => ?_⟩⟩
  obtain ⟨hl, hp⟩ := List.getElem?_eq_some_iff.1 hj
  have h2 := hc j (by have := h.1; omega)
  rw [List.getD_eq_getElem?_getD, hj] at h2
  cases i with
  | zero =>
    have : enc p = u := by simpa using hu
    subst this
    simpa [scalar] using h2
  | succ i => simp at hu
theorem reads_of_C {α : Type} {enc : α → Value} {d : α} {h1 : ∀ x, (enc x).oneCell' = true} {w : World} {A : Option Addr} {n : Nat} {xs : List α} (h : (scalar enc h1).C w A n xs) : ReadsOf enc d w A n xs := by
  refine ⟨h.1, h.2.1, fun hn => ?_⟩
  obtain ⟨ad, e, hc⟩ := h.2.2 hn
  refine ⟨ad, e, fun j hj => ?_⟩
  have hl : j < xs.length := by have := h.1; omega
  obtain ⟨c, _, hK, hcell⟩ := hc j _ (List.getElem?_eq_getElem hl)
  have hK' : c = [enc xs[j]] := hK
  subst hK'
  have := hcell 0 _ rfl
  simpa [scalar, List.getD_eq_getElem?_getD, List.getElem?_eq_getElem hl] using this
end Kd
/-! ### 24. Kinds nested in themselves -/
namespace Kd
/-- F says the more, the more its argument says. -/
structure Mono {α β : Type} (F : Kd α → Kd β) : Prop where
  sz : ∀ d d' : Kd α, d.sz = d'.sz → (F d).sz = (F d').sz
  K : ∀ d d' : Kd α, d.sz = d'.sz → (∀ w x cs, d.K w x cs → d'.K w x cs) → ∀ w x cs, (F d).K w x cs → (F d').K w x cs
  M : ∀ d d' : Kd α, d.sz = d'.sz → (∀ w base ok x cs, d.M w base ok x cs → d'.M w base ok x cs) → ∀ w base ok x cs, (F d).M w base ok x cs → (F d').M w base ok x cs
section
variable {α : Type} {F : Kd α → Kd α} {sz : Nat} {E : List Nat} {hs : ∀ n, (upto F sz E n).sz = sz} {hE : ∀ n q, q ∈ (upto F sz E n).E → q ∈ E}
end
end Kd
/-! ### 25. What is held while another row is written: 'ok' says that its rows are none of that row's block -/
namespace Kd
end Kd
/-! ### 26. Words for a printer that takes every slice by its kind -/
namespace Kd
section
variable {α β : Type} {d : Kd α} {d' : Kd β} {e e' : Nat} {w w1 W : World} {base b b' : Nat} {ok ok' okv oku : Nat → Prop} {v u : Value} {xs : List α} {ys : List β}
theorem C_nil (d : Kd α) (w : World) : d.C w none ([] : List α).length [] := ⟨rfl, by simp, fun h => absurd h (Nat.lt_irrefl 0)⟩
theorem R_reads' {A : Option Addr} {n c : Nat} (h : d.R e w base ok (.slice A n c) xs) : n = xs.length ∧ n ≤ c ∧ d.C w A xs.length xs := by
  obtain ⟨A', c', he, hl, hr⟩ := R_reads h
  injection he with h1 h2 h3
  subst h1
  exact ⟨h2, by omega, hr⟩
theorem R_form (h : d.R e w base ok v xs) (hp : 0 < xs.length) : ∃ g cap, v = .slice (some ⟨g, 0, none⟩) xs.length cap ∧ base ≤ g ∧ g < w.heap.size ∧ ∃ cells, w.heap[g]? = some (.cells cells e (0, 0)) := by
  obtain ⟨inner, ho⟩ := R_own h
  obtain ⟨g, cap, he, hb, hl⟩ := ho.form hp
  obtain ⟨cells, hc⟩ := own_typed ho g (by rw [he]; simp [Value.ownBlock])
  exact ⟨g, cap, he, hb, hl, cells, hc⟩
end
/-! #### scalars -/
section
variable {w W : World} {A : Option Addr} {n : Nat}
theorem at_int {k : IntKind} {xs : List Int} (h : (Kd.int k).C w A n xs) (i : Int) (h0 : 0 ≤ i) (h1 : i < n) : ∃ ad, A = some ad ∧ w.cell? (ad.add i.toNat) = some (.int k (rd xs i)) :=
  ReadsOf.at_ (reads_of_C (enc := Value.int k) (d := (0 : Int)) (h1 := fun _ => rfl) h) i h0 h1
variable {α : Type} {enc : α → Value} {h1 : ∀ x, (enc x).oneCell' = true} {e base g cap : Nat} {ok : Nat → Prop} {xs : List α}
theorem R_cell (d : α) (h : (scalar enc h1).R e W base ok (.slice (some ⟨g, 0, none⟩) xs.length cap) xs) (i : Int) (h0 : 0 ≤ i) (hi : i < xs.length) : W.cell? ⟨g, i.toNat, none⟩ = some (enc (rdOf d xs i)) ∧ W.frozen? ⟨g, i.toNat, none⟩ = false := own_at_of (own_of_R h) i h0 hi
theorem R_put (h : (scalar enc h1).R e W base ok (.slice (some ⟨g, 0, none⟩) xs.length cap) xs) (i : Int) (x : α) : (scalar enc h1).R e (W.setCell ⟨g, i.toNat, none⟩ (enc x)) base ok (.slice (some ⟨g, 0, none⟩) xs.length cap) (xs.set i.toNat x) ∧ W.grownBy (W.setCell ⟨g, i.toNat, none⟩ (enc x)) (some g) := by
  obtain ⟨ho, hg⟩ := own_store_of (own_of_R h) i x
  exact ⟨R_of_own (by rw [List.length_set]; exact ho) h.1, hg⟩
end

/-! #### events: a letter for what make and a literal leave -/
section
variable {P : Program} {ops : Array Oper} {rest : List Oper} {o : Oper} {a : Act} {Q : Exit → Act → World → Prop}
variable {α : Type}
end
end Kd
/-! ### 27. Cuts of a row of one's own: 'xs = xs[:n]' stays a row (R_take); 'xs = xs[k:]' is a row that begins inside its block (Kd.Q), append goes on it too -/
theorem own_take {w : World} {base n m c size : Nat} {e : TypeId} {A : Option Addr} {xs : List Value} (h : w.ownsRow base e size (.slice A n c) n xs) (hm : m ≤ n) : w.ownsRow base e size (.slice A m c) m (xs.take (m * size)) := by
  obtain ⟨h1, h2⟩ := h
  refine ⟨by rw [List.length_take, h1]; exact Nat.min_eq_left (Nat.mul_le_mul_right _ hm), ?_⟩
  rcases h2 with ⟨he, h0⟩ | ⟨g, cap, cur, he, hb, hh, hnc, hcm, hcs, ht⟩
  · injection he with ha _ hc
    subst ha; subst hc
    exact .inl ⟨by rw [show m = 0 by omega], by omega⟩
  · injection he with ha _ hc
    subst ha; subst hc
    refine .inr ⟨g, c, cur, rfl, hb, hh, by omega, hcm, hcs, ?_⟩
    rw [← ht, List.take_take, Nat.min_eq_left (Nat.mul_le_mul_right _ hm)]
section
variable {P : Program}
end
/-- A row of one's own that may begin inside its block. -/
def QRow (w : World) (base : Nat) (e : TypeId) (size : Nat) (v : Value) (n : Nat) (xs : List Value) : Prop :=
  xs.length = n * size ∧
  ((n = 0 ∧ ∃ A, v = .slice A 0 0 ∧ ∀ a, A = some a → base ≤ a.block ∧ ∃ cur, w.heap[a.block]? = some (.cells cur e (0, 0))) ∨
   ∃ g off cap cur, v = .slice (some ⟨g, off * size, none⟩) n cap ∧ base ≤ g ∧ w.heap[g]? = some (.cells cur e (0, 0)) ∧ n ≤ cap ∧ off + cap ≤ maxLen ∧ cur.size = (off + cap) * size ∧ (cur.toList.drop (off * size)).take (n * size) = xs)
section
variable {w w1 : World} {base n size : Nat} {e : TypeId} {v : Value} {xs : List Value}
theorem add_at (g o j : Nat) : (⟨g, o, none⟩ : Addr).add j = ⟨g, o + j, none⟩ := by unfold Addr.add; split <;> simp_all
/-- What a run of cells written leaves. -/
theorem setCells_far {g : Nat} : ∀ (vs : List Value) (o : Nat) {w : World} (k : Nat), k ≠ g → (w.setCells g o vs).heap[k]? = w.heap[k]?
  | [], _, _, _, _ => rfl
  | v :: r, o, w, k, hk => by
    rw [World.setCells, setCells_far r (o + 1) k hk]
    exact Below.heap_setCell w ⟨g, o, none⟩ v k hk
theorem setCells_same (g : Nat) : ∀ (vs : List Value) (o : Nat) (w : World), (w.setCells g o vs).os = w.os ∧ (w.setCells g o vs).tape = w.tape ∧ (w.setCells g o vs).output = w.output ∧ (w.setCells g o vs).heap.size = w.heap.size
  | [], _, _ => ⟨rfl, rfl, rfl, rfl⟩
  | v :: r, o, w => by
    obtain ⟨h1, h2, h3, h4⟩ := setCells_same g r (o + 1) (w.setCell ⟨g, o, none⟩ v)
    rw [World.setCells]
    exact ⟨h1, h2, h3, by rw [h4]; simp [World.setCell]⟩
theorem setCells_row {g : Nat} {e : TypeId} : ∀ (vs : List Value) (o : Nat) (w : World) (cur : Array Value), w.heap[g]? = some (.cells cur e (0, 0)) → o + vs.length ≤ cur.size →
    ∃ cur', (w.setCells g o vs).heap[g]? = some (.cells cur' e (0, 0)) ∧ cur'.size = cur.size ∧ cur'.toList = cur.toList.take o ++ vs ++ cur.toList.drop (o + vs.length)
  | [], o, w, cur, h, _ => ⟨cur, h, rfl, by simp⟩
  | v :: r, o, w, cur, h, hl => by
    have h2 := blk_set h o v
    simp only [List.length_cons] at hl
    obtain ⟨cur', h3, h4, h5⟩ := setCells_row r (o + 1) (w.setCell ⟨g, o, none⟩ v) _ h2 (by simp; omega)
    refine ⟨cur', h3, by rw [h4]; simp, ?_⟩
    rw [h5, Array.toList_setIfInBounds]
    have ho : o < cur.toList.length := by rw [Array.length_toList]; omega
    rw [List.take_set, List.drop_set_of_lt (by omega)]
    simp only [List.length_cons]
    rw [show o + 1 + r.length = o + (r.length + 1) by omega]
    congr 1
    rw [List.take_succ_eq_append_getElem ho, List.set_append_right _ _ (by rw [List.length_take]; omega)]
    have ho' : o < cur.size := by omega
    simp [Nat.min_eq_left (Nat.le_of_lt ho')]
end
section
variable {P : Program}
end
/-! ### 28. The kinds' words for cuts: R_take; Q (a row that may begin inside its block) with all of R's movers -/
namespace Kd
theorem reps_take {α : Type} {R : α → List Value → Prop} {size m : Nat} {ps : List α} {cs : List Value} (h : Reps R size ps cs) (hm : m ≤ ps.length) : Reps R size (ps.take m) (cs.take (m * size)) := by
  refine ⟨by rw [List.length_take, List.length_take, h.1, Nat.min_eq_left hm, Nat.min_eq_left (Nat.mul_le_mul_right _ hm)], fun j p hj => ?_⟩
  rw [List.getElem?_take] at hj
  split at hj
  · rename_i hjm
    have := h.2 j p hj
    have hle : j * size + size ≤ m * size := by rw [← Nat.succ_mul]; exact Nat.mul_le_mul_right _ hjm
    rw [List.drop_take, List.take_take, Nat.min_eq_left (by omega)]
    exact this
  · cases hj
theorem R_take {α : Type} {d : Kd α} {e m n c : Nat} {w : World} {base : Nat} {ok : Nat → Prop} {A : Option Addr} {xs : List α} (h : d.R e w base ok (.slice A n c) xs) (hm : m ≤ xs.length) : d.R e w base ok (.slice A m c) (xs.take m) := by
  obtain ⟨h0, inner, ho, hr⟩ := h
  have hn : n = xs.length := by
    obtain ⟨A', c', he⟩ := own_slice ho
    injection he
  subst hn
  have hb : ∀ x y : Nat, (Value.slice A x c).ownBlock = (Value.slice A y c).ownBlock := by
    intro x y
    cases A <;> rfl
  refine ⟨fun k hk => h0 k (by rw [hb _ m]; exact hk), inner.take (m * d.sz), ?_, ?_⟩
  · rw [List.length_take, Nat.min_eq_left hm]
    exact own_take ho hm
  · rw [hb m xs.length]
    exact reps_take hr hm
def Q {α : Type} (d : Kd α) (e : Nat) (w : World) (base : Nat) (ok : Nat → Prop) (v : Value) (xs : List α) : Prop :=
  (∀ k, v.ownBlock = some k → ok k) ∧ ∃ inner, QRow w base e d.sz v xs.length inner ∧ Reps (d.M w base (fun k => ok k ∧ some k ≠ v.ownBlock)) d.sz xs inner
section
variable {α : Type} {d : Kd α} {e : Nat} {w w1 W : World} {base : Nat} {ok ok' : Nat → Prop} {v : Value} {xs : List α}
end
section
variable {P : Program} {ops : Array Oper} {rest : List Oper} {o : Oper} {a : Act} {Q' : Exit → Act → World → Prop} {Kc : Act → World → Prop} {α : Type}
end
end Kd
/-! ### 29. Movers that ask of another row no more than they need: for R and for Q -/
namespace Kd
section
variable {α : Type} {d : Kd α} {e e' : Nat} {w w1 W : World} {base : Nat} {ok : Nat → Prop} {u v : Value} {xs : List α}
theorem R_typed (h : d.R e w base ok v xs) : ∀ k, v.ownBlock = some k → ∃ cells, w.heap[k]? = some (.cells cells e (0, 0)) := by
  obtain ⟨inner, ho⟩ := R_own h
  exact fun k hk => own_typed ho k hk
end
end Kd
/-! ### 30. Elements written: x[i] = T{..}, x[i].f = v, swaps, in a row of elements of any kind -/
namespace Kd
section
variable {α : Type} {d : Kd α} {e base g n cap : Nat} {ok okp : Nat → Prop} {W : World} {xs : List α}
end
end Kd
/-! ### 31. What came in, put into what is made: 'fixed d w0' (read in w0, whatever happens since), 'or_ a b', 'mix' (a slice that came in, or one that is made) -/
namespace Kd
def fixed {α : Type} (d : Kd α) (w0 : World) : Kd α where
  sz := d.sz
  E := []
  K := fun _ x cs => d.K w0 x cs
  M := fun _ _ _ x cs => d.K w0 x cs
  K_len := d.K_len
  K_one := d.K_one
  K_below := fun _ h => h
  K_of_M := fun h => h
  M_mono := fun _ h => h
  M_bound := fun h => h
  M_move := fun _ h => h
  M_lower := fun _ h => h
def or_ {α : Type} (a b : Kd α) (h : b.sz = a.sz) : Kd α where
  sz := a.sz
  E := a.E ++ b.E
  K := fun w x cs => a.K w x cs ∨ b.K w x cs
  M := fun w base ok x cs => a.M w base ok x cs ∨ b.M w base ok x cs
  K_len := fun hk => hk.elim a.K_len (fun hk => (b.K_len hk).trans h)
  K_one := fun hk => hk.elim a.K_one b.K_one
  K_below := fun hb hk => hk.imp (a.K_below hb) (b.K_below hb)
  K_of_M := fun hk => hk.imp a.K_of_M b.K_of_M
  M_mono := fun hok hk => hk.imp (a.M_mono hok) (b.M_mono hok)
  M_bound := fun hk => hk.imp
    (fun hk => a.M_mono (fun _ ⟨h1, h2, h3, q, hq, hc⟩ => ⟨h1, h2, h3, q, List.mem_append_left _ hq, hc⟩) (a.M_bound hk))
    (fun hk => b.M_mono (fun _ ⟨h1, h2, h3, q, hq, hc⟩ => ⟨h1, h2, h3, q, List.mem_append_right _ hq, hc⟩) (b.M_bound hk))
  M_move := fun hm hk => hk.imp (a.M_move hm) (b.M_move hm)
  M_lower := fun hb hk => hk.imp (a.M_lower hb) (b.M_lower hb)
section
variable {α : Type} {F : Kd α → Kd α} {sz : Nat} {E : List Nat} {hs : ∀ n, (upto F sz E n).sz = sz} {hE : ∀ n q, q ∈ (upto F sz E n).E → q ∈ E}
end
end Kd
/-! ### 32. A whole row appended, of elements of any kind; copy onto a row of scalars of one's own -/
namespace Kd
section
variable {P : Program} {ops : Array Oper} {rest : List Oper} {o : Oper} {a : Act} {Q : Exit → Act → World → Prop} {α : Type}
end
end Kd
/-! ### 33. A store into a row of one's own, as_ an event: no go_simp -/
namespace Kd
section
variable {P : Program} {ops : Array Oper} {rest : List Oper} {o : Oper} {a : Act} {Q : Exit → Act → World → Prop} {α : Type}
end
end Kd
/-! ### 34. Cuts that are only read, of any row -/
namespace Kd
section
variable {α : Type} {k : Kd α} {w : World} {A : Option Addr} {xs : List α} {m c : Nat}
end
end Kd
section
variable {P : Program}
end
/-! ### 35. string(b), b read (a cut too) -/
/-! ### 6. What the printer adds -/
theorem ReadsInt.nil (W : World) (k : IntKind) : ReadsInt W k none ([] : List Int).length [] := ⟨rfl, by simp, fun h => absurd h (Nat.lt_irrefl 0)⟩
theorem ReadsInt.drewN {W : World} {k : IntKind} {A : Option Addr} {n : Nat} {xs : List Int} (h : ReadsInt W k A n xs) (m : Nat) : ReadsInt (W.drewN m) k A n xs := h
theorem add_block (a : Addr) (i : Nat) : (a.add i).block = a.block := by unfold Addr.add; split <;> rfl
theorem ReadsOf.nil {α : Type} (enc : α → Value) (d : α) (W : World) : ReadsOf enc d W none ([] : List α).length [] := ⟨rfl, by simp, fun h => absurd h (Nat.lt_irrefl 0)⟩
theorem ReadsOf.drewN {α : Type} {enc : α → Value} {d : α} {W : World} {A : Option Addr} {n : Nat} {xs : List α} (h : ReadsOf enc d W A n xs) (m : Nat) : ReadsOf enc d (W.drewN m) A n xs := h
theorem blk_put {w : World} {g : Nat} {t : TypeId} {cs cs' : Array Value} (h : w.heap[g]? = some (.cells cs t (0, 0))) (i : Nat) (u : Value) (e : cs.setIfInBounds i u = cs') : (w.setCell ⟨g, i, none⟩ u).heap[g]? = some (.cells cs' t (0, 0)) := e ▸ blk_set h i u
theorem below_drew1 {base : Nat} {w W : World} (h : Below base w W) : Below base w W.drew := h.drew
namespace Kd
section
variable {α β : Type} {d : Kd α} {d' : Kd β} {e e' base base' n : Nat} {ok ok' : Nat → Prop} {w W w1 W1 : World} {v u : Value} {xs : List α} {ys : List β} {A : Option Addr} {c : Nat}
end
section
variable {α : Type} {enc : α → Value} {h1 : ∀ x, (enc x).oneCell' = true} {w W : World} {A : Option Addr} {n g : Nat} {xs : List α}
end
end Kd
namespace Kd
section
variable {α : Type} {d : Kd α} {e base g : Nat} {ok : Nat → Prop} {w w1 : World} {v : Value} {xs : List α} {o : Obj}
end
end Kd
section
variable {P : Program} {ops : Array Oper} {rest : List Oper} {o : Oper} {a : Act} {Q : Exit → Act → World → Prop}
theorem Kd.R_append_row {α : Type} (enc : α → Value) (d : α) {h1 : ∀ x : α, (enc x).oneCell' = true} {w0 W : World} (base : Nat) (hgd : o.guard = none) (s x : Operand) (t e : TypeId) (z : Value) (bytes : Nat)
    (ho : o.op = .call { callee := .builtin .append, args := #[s, x], argTypes := #[t, t] })
    (ht : P.underlying t = some (.slice e)) (hinfo : (P.info? e).map (fun i => (i.zero, i.size, i.bytes)) = some (some z, 1, bytes)) (hz : z.cells.size = 1) (hb0 : 0 < bytes)
    (v : Value) (xs ys : List α) (A : Option Addr) (m c : Nat) (ok : Nat → Prop) (hs : a.eval s = v) (hx : a.eval x = .slice A m c) (hfresh : ∀ k, W.heap.size ≤ k → ok k)
    (HO : (Kd.scalar enc h1).R e W base ok v xs) (HR : (Kd.scalar enc h1).C W A m ys) (HB : Below base w0 W) (hbase : base ≤ W.heap.size) (hl : (xs.length + m) * bytes ≤ 140737488355328)
    (h : ∀ v1 w1, (Kd.scalar enc h1).R e w1 base ok v1 (xs ++ ys) → Below base w0 w1 → W.grownBy w1 v.ownBlock → (v1.ownBlock = v.ownBlock ∨ ∃ b, v1.ownBlock = some b ∧ W.heap.size ≤ b) → wpList P ops Q rest (a.put o.dst v1) w1) :
    wpList P ops Q (o :: rest) a W := by
  refine print_append_row_of (w0 := w0) enc d base hgd s x t e z bytes ho ht hinfo hz hb0 h1 v xs ys A m c hs hx (Kd.own_of_R HO) (Kd.reads_of_C (d := d) HR) HB hbase hl ?_
  intro v1 w1 hown hb hg hat
  refine h v1 w1 (Kd.R_of_own hown (fun k hk => ?_)) hb hg hat
  rcases hat with e1 | ⟨b, e1, hbb⟩
  · exact HO.1 k (by rw [← e1]; exact hk)
  · rw [e1] at hk
    injection hk with hk
    subst hk
    exact hfresh _ hbb
end
namespace Kd
section
variable {α : Type} {enc : α → Value} {h1 : ∀ x, (enc x).oneCell' = true} {e base g n cap : Nat} {ok : Nat → Prop} {W : World} {xs : List α}
end
end Kd
section
variable {P : Program} {ops : Array Oper} {rest : List Oper} {o : Oper} {a : Act} {Q : Exit → Act → World → Prop}
end
namespace Kd
section
variable {α : Type} {enc : α → Value} {h1 : ∀ x, (enc x).oneCell' = true} {e base g n cap : Nat} {ok : Nat → Prop} {W : World} {xs : List α}
end
end Kd
section
variable {P : Program} {ops : Array Oper} {rest : List Oper} {o : Oper} {a : Act} {Q : Exit → Act → World → Prop} {W : World}
end
/-! ### 36. Events as_ one step of a region that draws (for one_, two_, three_) -/
section
variable {P : Program} {ops : Array Oper} {o : Oper} {a : Act} {Q : Exit → Act → World → Prop} {Kc : Act → World → Prop}
theorem event_step {W w1 : World} {v : Value} (hw : Region.wanted o (yielded ops a.tmps) = true) (hrun : (execOp a.eval o).run P W = .ok (.value v) w1) (h : Kc (a.put o.dst v) w1) : if Region.wanted o (yielded ops a.tmps) = true then Oper.wp P o a W Kc Q else Kc (a.put o.dst undef) W := by
  rw [if_pos hw]
  unfold Oper.wp
  rw [hrun]
  exact h
namespace Kd
variable {α : Type}
end Kd
end
/-! ### 37. Results of any shape -/
inductive Vals (P : Program) (tmps : Array Value) (w : World) : List ResultVar → List Value → Prop where
  | nil : Vals P tmps w [] []
  | tmp {u : Tmp} {rs : List ResultVar} {vs : List Value} (h : Vals P tmps w rs vs) : Vals P tmps w (.tmp u :: rs) (tmps.getD u undef :: vs)
  | cell {p : Tmp} {ty : TypeId} {rs : List ResultVar} {vs : List Value} (g : Nat) (t : TypeId) (cs : Array Value) (fr : Nat × Nat) (d : TypeDesc)
      (hp : tmps.getD p undef = .pointer (some ⟨g, 0, none⟩)) (hg : w.heap[g]? = some (.cells cs t fr))
      (hu : P.underlying ty = some d) (hd : (match d with | .struct _ | .array _ _ => true | _ => false) = true) (hi : (P.info? ty).map (·.size) = some cs.size)
      (h : Vals P tmps w rs vs) : Vals P tmps w (.cell p ty :: rs) (.agg cs :: vs)
section
variable {P : Program} {tmps : Array Value} {w : World}
end
/-! ### 38. 'out = append(out[:k], out[k+1:]...)': an element taken out of a row of one's own, in place -/
namespace Kd
section
variable {P : Program} {α : Type}
end
section
variable {P : Program} {ops : Array Oper} {rest : List Oper} {o : Oper} {a : Act} {Q : Exit → Act → World → Prop} {Kc : Act → World → Prop} {α : Type}
end
end Kd

end Go.Proofs.YthijhmidmhgfaaaW.PrintWords

/-
  PRINTED WORDS, second file: A REGION THAT DRAWS ITS ORDER, WALKED BY HAND, where its last store writes what its own loads read ('x.f = append(x.f, f(i))'). Plain theorems; no macro, no elab. A claim may hold it (turn the namespace's name).
  A load may be taken first in every world that meets S; behind the operations of ds nothing is shown; sound because each of ds waits for what is taken (Region.lastB). The kernel checks it.
  By an AI agent of Go's test side, Mon Nov 16 2026. No person has read it.
-/
namespace Go.Proofs.YthijhmidmhgfaaaW.PrintLast

section
variable {P : Program} {ops : Array Oper} {Q : Exit → Act → World → Prop} {md : Region.Mode} {S : World → Prop} {ds : List Nat}

/-- Operation d waits for operation i, by a chain of at most 'fuel' edges. -/
def Region.reachB (md : Region.Mode) (ops : Array Oper) (i : Nat) : Nat → Nat → Bool
  | 0, _ => false
  | fuel + 1, d => match ops[d]? with
    | some o => o.after.any fun e => Region.binds md e && (e.on == i || Region.reachB md ops i fuel e.on)
    | none => false

/-- What is listed is closed under the edges. -/
def Region.closedB (md : Region.Mode) (ops : Array Oper) (listed : Array Bool) : Bool :=
  (List.range ops.size).all fun j => !listed.getD j false || match ops[j]? with
    | some o => o.after.all fun e => !Region.binds md e || listed.getD e.on false
    | none => true

/-- Each of ds that has not come up yet waits for number i. -/
def Region.lastB (md : Region.Mode) (ops : Array Oper) (listed : Array Bool) (ds : List Nat) (i : Nat) : Bool :=
  ds.all fun d => listed.getD d true || Region.reachB md ops i ops.size d

def ListedClosed (md : Region.Mode) (ops : Array Oper) (listed : Array Bool) : Prop :=
  ∀ j oj, ops[j]? = some oj → listed.getD j false = true → ∀ e ∈ oj.after, Region.binds md e = true → listed.getD e.on false = true

theorem Region.closedB_spec {listed : Array Bool} (h : Region.closedB md ops listed = true) : ListedClosed md ops listed := by
  intro j oj hj hl e he hb
  have hlt : j < ops.size := (Array.getElem?_eq_some_iff.1 hj).1
  have h1 := List.all_eq_true.1 h j (List.mem_range.2 hlt)
  simp only [hl, hj, Bool.not_true, Bool.false_or] at h1
  have h2 := Array.all_eq_true_iff_forall_mem.1 h1 e he
  simpa [hb] using h2

theorem ListedClosed.set {listed : Array Bool} {i : Nat} (h : ListedClosed md ops listed) (hi : i ∈ Region.ready md ops listed) : ListedClosed md ops (listed.setIfInBounds i true) := by
  obtain ⟨_, oi, hoi, hall⟩ := mem_ready.1 hi
  intro j oj hj hl e he hb
  by_cases hij : i = j
  · subst hij
    have : oj = oi := Option.some.inj (hj.symm.trans hoi)
    subst this
    exact getD_set_true (hall e he hb)
  · rw [getD_set_ne false hij] at hl
    exact getD_set_true (h j oj hj hl e he hb)

theorem Region.reach_listed {listed : Array Bool} {i : Nat} (hc : ListedClosed md ops listed) : ∀ (fuel d : Nat), Region.reachB md ops i fuel d = true → listed.getD d false = true → listed.getD i false = true
  | 0, _, h, _ => by simp [Region.reachB] at h
  | fuel + 1, d, h, hl => by
    unfold Region.reachB at h
    cases ho : ops[d]? with
    | none => rw [ho] at h; simp at h
    | some o =>
      rw [ho] at h
      obtain ⟨e, he, h1⟩ := Array.any_eq_true'.1 h
      simp only [Bool.and_eq_true, Bool.or_eq_true, beq_iff_eq] at h1
      have hle := hc d o ho hl e he h1.1
      rcases h1.2 with h2 | h2
      · rw [← h2]; exact hle
      · exact Region.reach_listed hc fuel e.on h2 hle

/-- What waits for i cannot come up before i is listed. -/
theorem Region.reach_not_ready {listed : Array Bool} {i d fuel : Nat} (hc : ListedClosed md ops listed) (hr : Region.reachB md ops i fuel d = true) (hun : listed.getD i true = false) : d ∉ Region.ready md ops listed := by
  intro hd
  obtain ⟨_, o, ho, hall⟩ := mem_ready.1 hd
  have hi : listed.getD i false = true := by
    cases fuel with
    | zero => simp [Region.reachB] at hr
    | succ n =>
      unfold Region.reachB at hr
      rw [ho] at hr
      obtain ⟨e, he, h1⟩ := Array.any_eq_true'.1 hr
      simp only [Bool.and_eq_true, Bool.or_eq_true, beq_iff_eq] at h1
      have hle := hall e he h1.1
      rcases h1.2 with h2 | h2
      · rw [← h2]; exact hle
      · exact Region.reach_listed hc n e.on h2 hle
  rcases Nat.lt_or_ge i listed.size with h' | h'
  · simp [h'] at hun hi
    rw [hun] at hi
    cases hi
  · simp [Array.getElem?_eq_none h'] at hun

/-- Whatever order is picked from here on, AND 'S' HOLDS BEHIND EVERY OPERATION THAT IS CARRIED OUT, those of ds apart. -/
def wpAnyLast (P : Program) (md : Region.Mode) (ops : Array Oper) (Q : Exit → Act → World → Prop) (S : World → Prop) (ds : List Nat) : Nat → Array Bool → Act → World → Prop
  | 0, listed, a, w => Region.ready md ops listed = [] ∧ Q .normal a w
  | fuel + 1, listed, a, w =>
    (Region.ready md ops listed = [] → Q .normal a w) ∧
    ∀ i ∈ Region.ready md ops listed, wpOp P ops Q i (fun a' w' => (i ∉ ds → S w → S w') ∧ wpAnyLast P md ops Q S ds fuel (listed.setIfInBounds i true) a' w') a w

theorem wpAny_of_last : ∀ (fuel : Nat) (listed : Array Bool) (a : Act) (w : World), wpAnyLast P md ops Q S ds fuel listed a w → wpAny P md ops Q fuel listed a w
  | 0, _, _, _, h => h
  | fuel + 1, _, _, _, h => ⟨h.1, fun i hi => wpOp_mono (fun a' w' h' => wpAny_of_last fuel _ a' w' h'.2) (h.2 i hi)⟩

theorem wpAnyLast_first {i : Nat} {oi : Oper} {v : Value} (hi : ops[i]? = some oi) (hsel : ∀ (j : Nat) (o : Oper) cs b, ops[j]? = some o → o.op ≠ .select cs b)
    (hQ : ∀ c a w, Q (.panic c) (a.put oi.dst v) w → Q (.panic c) a w) (n : Nat) :
    ∀ (fuel : Nat) (listed : Array Bool) (a : Act) (w : World),
      (∀ j oj, ops[j]? = some oj → j ≠ i → listed.getD j true = false → (∀ e ∈ oj.after, Region.binds md e = true → e.on ≠ i) → oi.apart ops oj = true) →
      ListedClosed md ops listed → (∀ d ∈ ds, listed.getD d true = false → Region.reachB md ops i n d = true) →
      i ∈ Region.ready md ops listed → YieldsIf P ops S oi v a → S w →
      wpAnyLast P md ops Q S ds fuel (listed.setIfInBounds i true) (a.put oi.dst v) w → wpAnyLast P md ops Q S ds (fuel + 1) listed a w := by
  intro fuel
  induction fuel with
  | zero =>
    intro listed a w _ _ _ hr hy hS H
    refine ⟨fun h => (by rw [h] at hr; cases hr), fun j hj => ?_⟩
    by_cases hji : j = i
    · subst hji; exact hy.wpOp hi hS ⟨fun _ h => h, H⟩
    · have := ready_mono hj hji
      rw [H.1] at this
      cases this
  | succ fuel ih =>
    intro listed a w hfree hc hd hr hy hS H
    refine ⟨fun h => (by rw [h] at hr; cases hr), fun j hj => ?_⟩
    by_cases hji : j = i
    · subst hji; exact hy.wpOp hi hS ⟨fun _ h => h, H⟩
    · have h1 := H.2 j (ready_mono hj hji)
      obtain ⟨hjun, oj, hoj, hall⟩ := mem_ready.1 hj
      have hiun := (mem_ready.1 hr).1
      have hnot : ∀ e ∈ oj.after, Region.binds md e = true → e.on ≠ i := fun e he hb heq => by
        have h1 := hall e he hb
        rw [heq] at h1
        rcases Nat.lt_or_ge i listed.size with h' | h'
        · simp [h'] at hiun h1; rw [hiun] at h1; cases h1
        · simp [Array.getElem?_eq_none h'] at h1
      have hjd : j ∉ ds := fun hm => Region.reach_not_ready hc (hd j hm hjun) hiun hj
      have h2 := wpOp_putIf hoj (hfree j oj hoj hji hjun hnot) (fun cs b => hsel i oi cs b hi) (fun cs b => hsel j oj cs b hoj) hQ hy h1
      have hfree' : ∀ k ok, ops[k]? = some ok → k ≠ i → (listed.setIfInBounds j true).getD k true = false →
          (∀ e ∈ ok.after, Region.binds md e = true → e.on ≠ i) → oi.apart ops ok = true := fun k ok hk hki hun hno => by
        refine hfree k ok hk hki ?_ hno
        by_cases hjk : j = k
        · subst hjk; exact hjun
        · rw [getD_set_ne true hjk] at hun; exact hun
      have hd' : ∀ d ∈ ds, (listed.setIfInBounds j true).getD d true = false → Region.reachB md ops i n d = true := fun d hm hun => by
        refine hd d hm ?_
        by_cases hjk : j = d
        · subst hjk; exact hjun
        · rw [getD_set_ne true hjk] at hun; exact hun
      refine wpOp_mono (fun a' w' h3 => ⟨h3.2.1, ih (listed.setIfInBounds j true) a' w' hfree' (hc.set hj) hd' (ready_mono hr (Ne.symm hji)) h3.1 (h3.2.1 hjd hS) ?_⟩) h2
      rw [Array.setIfInBounds_comm _ _ hji]
      exact h3.2.2

/-- Take number 'i' first, which yields whatever the world: no S is asked for, nor that anything waits for it. -/
theorem wpAnyLast_any {i : Nat} {oi : Oper} {v : Value} (hi : ops[i]? = some oi) (hsel : ∀ (j : Nat) (o : Oper) cs b, ops[j]? = some o → o.op ≠ .select cs b)
    (hQ : ∀ c a w, Q (.panic c) (a.put oi.dst v) w → Q (.panic c) a w) :
    ∀ (fuel : Nat) (listed : Array Bool) (a : Act) (w : World),
      (∀ j oj, ops[j]? = some oj → j ≠ i → listed.getD j true = false → (∀ e ∈ oj.after, Region.binds md e = true → e.on ≠ i) → oi.apart ops oj = true) →
      i ∈ Region.ready md ops listed → Yields P ops oi v a →
      wpAnyLast P md ops Q S ds fuel (listed.setIfInBounds i true) (a.put oi.dst v) w → wpAnyLast P md ops Q S ds (fuel + 1) listed a w := by
  intro fuel
  induction fuel with
  | zero =>
    intro listed a w _ hr hy H
    refine ⟨fun h => (by rw [h] at hr; cases hr), fun j hj => ?_⟩
    by_cases hji : j = i
    · subst hji; exact (hy.yieldsIf (S := fun _ => True)).wpOp hi trivial ⟨fun _ h => h, H⟩
    · have := ready_mono hj hji
      rw [H.1] at this
      cases this
  | succ fuel ih =>
    intro listed a w hfree hr hy H
    refine ⟨fun h => (by rw [h] at hr; cases hr), fun j hj => ?_⟩
    by_cases hji : j = i
    · subst hji; exact (hy.yieldsIf (S := fun _ => True)).wpOp hi trivial ⟨fun _ h => h, H⟩
    · have h1 := H.2 j (ready_mono hj hji)
      obtain ⟨hjun, oj, hoj, hall⟩ := mem_ready.1 hj
      have hiun := (mem_ready.1 hr).1
      have hnot : ∀ e ∈ oj.after, Region.binds md e = true → e.on ≠ i := fun e he hb heq => by
        have h1 := hall e he hb
        rw [heq] at h1
        rcases Nat.lt_or_ge i listed.size with h' | h'
        · simp [h'] at hiun h1; rw [hiun] at h1; cases h1
        · simp [Array.getElem?_eq_none h'] at h1
      have h2 := wpOp_put hoj (hfree j oj hoj hji hjun hnot) (fun cs b => hsel i oi cs b hi) (fun cs b => hsel j oj cs b hoj) hQ hy h1
      have hfree' : ∀ k ok, ops[k]? = some ok → k ≠ i → (listed.setIfInBounds j true).getD k true = false →
          (∀ e ∈ ok.after, Region.binds md e = true → e.on ≠ i) → oi.apart ops ok = true := fun k ok hk hki hun hno => by
        refine hfree k ok hk hki ?_ hno
        by_cases hjk : j = k
        · subst hjk; exact hjun
        · rw [getD_set_ne true hjk] at hun; exact hun
      refine wpOp_mono (fun a' w' h3 => ⟨h3.2.1, ih (listed.setIfInBounds j true) a' w' hfree' (ready_mono hr (Ne.symm hji)) h3.1 ?_⟩) h2
      rw [Array.setIfInBounds_comm _ _ hji]
      exact h3.2.2

/-- Take number 'i' first. -/
theorem wpAnyLast_take {i : Nat} {oi : Oper} {v : Value} {fuel : Nat} {listed : Array Bool} {a : Act} {w : World} (hi : ops[i]? = some oi)
    (hs : Region.noSelect ops = true) (hf : Region.free md ops listed i = true) (hr : (Region.ready md ops listed).contains i = true)
    (hc : Region.closedB md ops listed = true) (hl : Region.lastB md ops listed ds i = true)
    (hQ : ∀ c a w, Q (.panic c) (a.put oi.dst v) w → Q (.panic c) a w) (hy : YieldsIf P ops S oi v a) (hS : S w)
    (h : wpAnyLast P md ops Q S ds fuel (listed.setIfInBounds i true) (a.put oi.dst v) w) : wpAnyLast P md ops Q S ds (fuel + 1) listed a w :=
  wpAnyLast_first hi (Region.noSelect_spec hs) hQ ops.size fuel listed a w (Region.free_spec hi hf) (Region.closedB_spec hc)
    (fun d hm hun => by have := List.all_eq_true.1 hl d hm; rw [hun] at this; simpa using this) (by simpa using hr) hy hS h

theorem wpAnyLast_all {rs : List Nat} {fuel : Nat} {listed : Array Bool} {a : Act} {w : World} (hr : Region.ready md ops listed = rs) (hne : rs ≠ [])
    (h : ∀ i ∈ rs, wpOp P ops Q i (fun a' w' => (i ∉ ds → S w → S w') ∧ wpAnyLast P md ops Q S ds fuel (listed.setIfInBounds i true) a' w') a w) : wpAnyLast P md ops Q S ds (fuel + 1) listed a w :=
  ⟨fun h0 => absurd (hr ▸ h0) hne, hr ▸ h⟩

theorem wpAnyLast_done {listed : Array Bool} {a : Act} {w : World} (hr : Region.ready md ops listed = []) (h : Q .normal a w) :
    ∀ fuel, wpAnyLast P md ops Q S ds fuel listed a w
  | 0 => ⟨hr, h⟩
  | _ + 1 => ⟨fun _ => h, by rw [hr]; simp⟩

theorem wp_region_last {id : Nat} {a : Act} {w : World} (hm : P.follows .mixedOrders = true)
    (h : wpAnyLast P .any ops Q S ds ops.size (Array.replicate ops.size false) a { w with drawn := w.drawn + 1 }) : (Code.region id ops true).wp P Q a w :=
  wp_region_any hm (wpAny_of_last _ _ _ _ h)

end

section
variable {P : Program} {ops : Array Oper} {Q : Exit → Act → World → Prop} {md : Region.Mode} {S : World → Prop} {ds : List Nat}

def AllReadyL (P : Program) (md : Region.Mode) (ops : Array Oper) (Q : Exit → Act → World → Prop) (S : World → Prop) (ds : List Nat) (fuel : Nat) (listed : Array Bool) (a : Act) (w : World) (rs : List Nat) : Prop :=
  ∀ i ∈ rs, wpOp P ops Q i (fun a' w' => (i ∉ ds → S w → S w') ∧ wpAnyLast P md ops Q S ds fuel (listed.setIfInBounds i true) a' w') a w
theorem AllReadyL.nil {fuel : Nat} {listed : Array Bool} {a : Act} {w : World} : AllReadyL P md ops Q S ds fuel listed a w [] := fun _ h => by cases h
theorem AllReadyL.cons {fuel : Nat} {listed : Array Bool} {a : Act} {w : World} {i : Nat} {o : Oper} {rs : List Nat} (ho : ops[i]? = some o) (hd : i ∉ ds)
    (h : ∀ K' : Act → World → Prop, Shut (∀ a w, S w → (S w → wpAnyLast P md ops Q S ds fuel (listed.setIfInBounds i true) a w) → K' a w) → if Region.wanted o (yielded ops a.tmps) = true then Oper.wp P o a w K' Q else K' (a.put o.dst undef) w)
    (hs : AllReadyL P md ops Q S ds fuel listed a w rs) : AllReadyL P md ops Q S ds fuel listed a w (i :: rs) := fun j hj => by
  rcases List.mem_cons.1 hj with rfl | hj
  · exact wpOp_step ho (fun K' hK => h K' (fun a w hS hW => hK a w ⟨fun _ _ => hS, hW hS⟩))
  · exact hs j hj
/-- Behind an operation of ds nothing is shown. -/
theorem AllReadyL.cons_last {fuel : Nat} {listed : Array Bool} {a : Act} {w : World} {i : Nat} {o : Oper} {rs : List Nat} (ho : ops[i]? = some o) (hd : i ∈ ds)
    (h : ∀ K' : Act → World → Prop, Shut (∀ a w, wpAnyLast P md ops Q S ds fuel (listed.setIfInBounds i true) a w → K' a w) → if Region.wanted o (yielded ops a.tmps) = true then Oper.wp P o a w K' Q else K' (a.put o.dst undef) w)
    (hs : AllReadyL P md ops Q S ds fuel listed a w rs) : AllReadyL P md ops Q S ds fuel listed a w (i :: rs) := fun j hj => by
  rcases List.mem_cons.1 hj with rfl | hj
  · exact wpOp_step ho (fun K' hK => h K' (fun a w hW => hK a w ⟨fun hn => absurd hd hn, hW⟩))
  · exact hs j hj
theorem wpAnyLast_ready {rs : List Nat} {fuel : Nat} {listed : Array Bool} {a : Act} {w : World} (hr : Region.ready md ops listed = rs) (hne : rs ≠ [])
    (h : AllReadyL P md ops Q S ds fuel listed a w rs) : wpAnyLast P md ops Q S ds (fuel + 1) listed a w := wpAnyLast_all hr hne h
/-- THE SAME STEPS WITH WHAT HAS COME UP WRITTEN OUT (a literal array of Bools) and one check a step: quicker, and what is printed stays short. -/
theorem start_ {id n : Nat} {a : Act} {w : World} (l : Array Bool) (hm : P.follows .mixedOrders = true) (hn : ops.size = n) (hl : Array.replicate n false = l) (hS : S w.drew)
    (h : S w.drew → wpAnyLast P .any ops Q S ds n l a w.drew) : (Code.region id ops true).wp P Q a w := by
  subst hn
  subst hl
  exact wp_region_last hm (h hS)
def takeB (md : Region.Mode) (ops : Array Oper) (ds : List Nat) (l l' : Array Bool) (i : Nat) : Bool :=
  Region.noSelect ops && Region.free md ops l i && (Region.ready md ops l).contains i && Region.closedB md ops l && Region.lastB md ops l ds i && (l.setIfInBounds i true == l')
theorem take_ {i : Nat} {N : Option Tmp} {oi : Oper} {v : Value} {fuel : Nat} {l : Array Bool} {a : Act} {w : World} (l' : Array Bool) (hi : ops[i]? = some oi) (hN : oi.dst = N) (hc : takeB md ops ds l l' i = true)
    (hQ : ∀ c a w, Q (.panic c) (a.put oi.dst v) w → Q (.panic c) a w) (hy : YieldsIf P ops S oi v a) (hS : S w) {a' : Act} (ha : a.put N v = a')
    (h : wpAnyLast P md ops Q S ds fuel l' a' w) : wpAnyLast P md ops Q S ds (fuel + 1) l a w := by
  subst ha
  subst hN
  simp only [takeB, Bool.and_eq_true, beq_iff_eq] at hc
  obtain ⟨⟨⟨⟨⟨h1, h2⟩, h3⟩, h4⟩, h5⟩, h6⟩ := hc
  subst h6
  exact wpAnyLast_take hi h1 h2 h3 h4 h5 hQ hy hS h
def anyB (md : Region.Mode) (ops : Array Oper) (l l' : Array Bool) (i : Nat) : Bool :=
  Region.noSelect ops && Region.free md ops l i && (Region.ready md ops l).contains i && (l.setIfInBounds i true == l')
/-- An operation that yields in every world (a move, a number, an address): taken first wherever it may come up, behind a store too. -/
theorem pure_ {i : Nat} {N : Option Tmp} {oi : Oper} {v : Value} {fuel : Nat} {l : Array Bool} {a : Act} {w : World} (l' : Array Bool) (hi : ops[i]? = some oi) (hN : oi.dst = N) (hc : anyB md ops l l' i = true)
    (hQ : ∀ c a w, Q (.panic c) (a.put oi.dst v) w → Q (.panic c) a w) (hy : Yields P ops oi v a) {a' : Act} (ha : a.put N v = a')
    (h : wpAnyLast P md ops Q S ds fuel l' a' w) : wpAnyLast P md ops Q S ds (fuel + 1) l a w := by
  subst ha
  subst hN
  simp only [anyB, Bool.and_eq_true, beq_iff_eq] at hc
  obtain ⟨⟨⟨h1, h2⟩, h3⟩, h6⟩ := hc
  subst h6
  exact wpAnyLast_any hi (Region.noSelect_spec h1) hQ fuel l a w (Region.free_spec hi h2) (by simpa using h3) hy h
def readyB (md : Region.Mode) (ops : Array Oper) (l l' : Array Bool) (i : Nat) : Bool := (Region.ready md ops l == [i]) && (l.setIfInBounds i true == l')
/-- One operation alone may come up now (a call, a build, an append ..): it is run, S is shown behind it. -/
theorem one_ {i : Nat} {N : Option Tmp} {oi : Oper} {fuel : Nat} {l : Array Bool} {a : Act} {w : World} (l' : Array Bool) (hi : ops[i]? = some oi) (hN : oi.dst = N) (hc : readyB md ops l l' i = true) (hd : i ∉ ds)
    (h : ∀ K : Act → World → Prop, Shut (∀ a' w', S w' → (S w' → wpAnyLast P md ops Q S ds fuel l' a' w') → K a' w') → if Region.wanted oi (yielded ops a.tmps) = true then Oper.wp P oi a w K Q else K (a.put N undef) w) :
    wpAnyLast P md ops Q S ds (fuel + 1) l a w := by
  subst hN
  simp only [readyB, Bool.and_eq_true, beq_iff_eq] at hc
  obtain ⟨h1, h2⟩ := hc
  subst h2
  exact wpAnyLast_ready h1 (by simp) (AllReadyL.cons hi hd (fun K hK => h K hK) AllReadyL.nil)
/-- The same for one of ds: nothing is shown behind it. -/
theorem last_ {i : Nat} {N : Option Tmp} {oi : Oper} {fuel : Nat} {l : Array Bool} {a : Act} {w : World} (l' : Array Bool) (hi : ops[i]? = some oi) (hN : oi.dst = N) (hc : readyB md ops l l' i = true) (hd : i ∈ ds)
    (h : ∀ K : Act → World → Prop, Shut (∀ a' w', wpAnyLast P md ops Q S ds fuel l' a' w' → K a' w') → if Region.wanted oi (yielded ops a.tmps) = true then Oper.wp P oi a w K Q else K (a.put N undef) w) :
    wpAnyLast P md ops Q S ds (fuel + 1) l a w := by
  subst hN
  simp only [readyB, Bool.and_eq_true, beq_iff_eq] at hc
  obtain ⟨h1, h2⟩ := hc
  subst h2
  exact wpAnyLast_ready h1 (by simp) (AllReadyL.cons_last hi hd (fun K hK => h K hK) AllReadyL.nil)
theorem done_ {l : Array Bool} {a : Act} {w : World} {n : Nat} (hr : (Region.ready md ops l == []) = true) (h : Q .normal a w) : wpAnyLast P md ops Q S ds n l a w := wpAnyLast_done (by simpa using hr) h n
/-! ### Several operations that write or call may come up: each order is walked, what follows is shown once (join_) -/
theorem two_ {i j : Nat} {Ni Nj : Option Tmp} {oi oj : Oper} {fuel : Nat} {l : Array Bool} {a : Act} {w : World} (li lj : Array Bool) (hi : ops[i]? = some oi) (hj : ops[j]? = some oj) (hNi : oi.dst = Ni) (hNj : oj.dst = Nj)
    (hc : (Region.ready md ops l == [i, j] && l.setIfInBounds i true == li && l.setIfInBounds j true == lj) = true) (hdi : i ∉ ds) (hdj : j ∉ ds)
    (h1 : ∀ K : Act → World → Prop, Shut (∀ a' w', S w' → (S w' → wpAnyLast P md ops Q S ds fuel li a' w') → K a' w') → if Region.wanted oi (yielded ops a.tmps) = true then Oper.wp P oi a w K Q else K (a.put Ni undef) w)
    (h2 : ∀ K : Act → World → Prop, Shut (∀ a' w', S w' → (S w' → wpAnyLast P md ops Q S ds fuel lj a' w') → K a' w') → if Region.wanted oj (yielded ops a.tmps) = true then Oper.wp P oj a w K Q else K (a.put Nj undef) w) :
    wpAnyLast P md ops Q S ds (fuel + 1) l a w := by
  subst hNi
  subst hNj
  simp only [Bool.and_eq_true, beq_iff_eq] at hc
  obtain ⟨⟨h3, h4⟩, h5⟩ := hc
  subst h4
  subst h5
  exact wpAnyLast_ready h3 (by simp) (AllReadyL.cons hi hdi (fun K hK => h1 K hK) (AllReadyL.cons hj hdj (fun K hK => h2 K hK) AllReadyL.nil))
theorem three_ {i j k : Nat} {Ni Nj Nk : Option Tmp} {oi oj ok : Oper} {fuel : Nat} {l : Array Bool} {a : Act} {w : World} (li lj lk : Array Bool) (hi : ops[i]? = some oi) (hj : ops[j]? = some oj) (hk : ops[k]? = some ok) (hNi : oi.dst = Ni) (hNj : oj.dst = Nj) (hNk : ok.dst = Nk)
    (hc : (Region.ready md ops l == [i, j, k] && l.setIfInBounds i true == li && l.setIfInBounds j true == lj && l.setIfInBounds k true == lk) = true) (hdi : i ∉ ds) (hdj : j ∉ ds) (hdk : k ∉ ds)
    (h1 : ∀ K : Act → World → Prop, Shut (∀ a' w', S w' → (S w' → wpAnyLast P md ops Q S ds fuel li a' w') → K a' w') → if Region.wanted oi (yielded ops a.tmps) = true then Oper.wp P oi a w K Q else K (a.put Ni undef) w)
    (h2 : ∀ K : Act → World → Prop, Shut (∀ a' w', S w' → (S w' → wpAnyLast P md ops Q S ds fuel lj a' w') → K a' w') → if Region.wanted oj (yielded ops a.tmps) = true then Oper.wp P oj a w K Q else K (a.put Nj undef) w)
    (h3 : ∀ K : Act → World → Prop, Shut (∀ a' w', S w' → (S w' → wpAnyLast P md ops Q S ds fuel lk a' w') → K a' w') → if Region.wanted ok (yielded ops a.tmps) = true then Oper.wp P ok a w K Q else K (a.put Nk undef) w) :
    wpAnyLast P md ops Q S ds (fuel + 1) l a w := by
  subst hNi
  subst hNj
  subst hNk
  simp only [Bool.and_eq_true, beq_iff_eq] at hc
  obtain ⟨⟨⟨h4, h5⟩, h6⟩, h7⟩ := hc
  subst h5
  subst h6
  subst h7
  exact wpAnyLast_ready h4 (by simp) (AllReadyL.cons hi hdi (fun K hK => h1 K hK) (AllReadyL.cons hj hdj (fun K hK => h2 K hK) (AllReadyL.cons hk hdk (fun K hK => h3 K hK) AllReadyL.nil)))
/-- The act with some destinations filled. -/
def putAll : Act → List (Tmp × Value) → Act
  | a, [] => a
  | a, (n, v) :: r => putAll (a.put (some n) v) r
/-- What follows, once: s the values that the orders leave, F what is known of them and of the world. -/
theorem join_ {σ : Type} {fuel : Nat} {l : Array Bool} {a : Act} {w : World} (fuel' : Nat) (l' : Array Bool) (ns : σ → List (Tmp × Value)) (F : σ → World → Prop)
    (hcont : ∀ s w', F s w' → wpAnyLast P md ops Q S ds fuel' l' (putAll a (ns s)) w')
    (h : (∀ s w', F s w' → wpAnyLast P md ops Q S ds fuel' l' (putAll a (ns s)) w') → wpAnyLast P md ops Q S ds fuel l a w) : wpAnyLast P md ops Q S ds fuel l a w := h hcont
/-- A call of a Go function, by its contract. -/
theorem call_ {oi : Oper} {N : Option Tmp} {a : Act} {w : World} {K : Act → World → Prop} (f : FuncId) (args : Array Value) (hw : Region.wanted oi (yielded ops a.tmps) = true) (hN : oi.dst = N) (hrun : (execOp a.eval oi).run P w = .ok (.enter f args) w)
    (h : Calls P f args w fun e w' => ∃ v, e = .returned v ∧ K (a.put N v) w') : if Region.wanted oi (yielded ops a.tmps) = true then Oper.wp P oi a w K Q else K (a.put N undef) w := by
  rw [if_pos hw]
  subst hN
  unfold Oper.wp
  rw [hrun, Oper.upon_enter]
  refine h.mono fun e w'' hh => ?_
  obtain ⟨v, rfl, hk⟩ := hh
  exact hk
theorem enters_ {f : FuncId} {fn : Func} (hf : P.funcs[f]? = some fn) (hname : (fn.name == "runtime.NumGoroutine") = false) (hb : fn.body.isSome = true) (args : Array Value) (w : World) : (callFunc f args).run P w = .ok (.enter f args) w := by
  have h1 : fn.name ≠ "runtime.NumGoroutine" := by simpa using hname
  obtain ⟨c, hc⟩ := Option.isSome_iff_exists.1 hb
  simp [callFunc, hf, h1, hc]
/-- The same, the operation's run shown here: 'goes_ A.func3 (by kernel_rfl) rfl #[..] (by rfl) rfl rfl (by rfl) ?_'. -/
theorem goes_ {oi : Oper} {N : Option Tmp} {a : Act} {w : World} {K : Act → World → Prop} {f : FuncId} {fn : Func} {as_ : Array Operand} {ts : Array TypeId} (hf : P.funcs[f]? = some fn) (hname : (fn.name == "runtime.NumGoroutine") = false) (hb : fn.body.isSome = true) (args : Array Value)
    (hw : Region.wanted oi (yielded ops a.tmps) = true) (hN : oi.dst = N) (hop : oi.op = .call { callee := .value (.func f), args := as_, argTypes := ts }) (hargs : as_.map a.eval = args)
    (h : Calls P f args w fun e w' => ∃ v, e = .returned v ∧ K (a.put N v) w') : if Region.wanted oi (yielded ops a.tmps) = true then Oper.wp P oi a w K Q else K (a.put N undef) w := by
  refine call_ f args hw hN ?_ h
  have he := enters_ hf hname hb args w
  unfold execOp
  simp [hop, resolve, Deferred.ofValue, invoke, Act.eval, hargs, he]
/-- A store. -/
theorem skip_ {oi : Oper} {a : Act} {w w1 : World} {K : Act → World → Prop} (hw : Region.wanted oi (yielded ops a.tmps) = true) (hN : oi.dst = none) (hrun : (execOp a.eval oi).run P w = .ok .skip w1)
    (h : K a w1) : if Region.wanted oi (yielded ops a.tmps) = true then Oper.wp P oi a w K Q else K (a.put none undef) w := by
  rw [if_pos hw]
  unfold Oper.wp
  rw [hrun]
  show K (a.put oi.dst undef) w1
  rw [hN]
  exact h
theorem i64_w (n : Int) : IntKind.i64.wrap n = Go.RowKit.wrap64 n := by unfold Go.RowKit.wrap64; exact IntKind.wrap_i64 n
theorem i32_w (n : Int) : IntKind.i32.wrap n = Go.RowKit.wrap32 n := by unfold Go.RowKit.wrap32; exact IntKind.wrap_i32 n
end
end Go.Proofs.YthijhmidmhgfaaaW.PrintLast

/-! ### 50. A region's order in a table, made once a region: each step asks the table (numbers alone), not the operations -/
namespace Go.Proofs.YthijhmidmhgfaaaW.PrintLast
open Go.Proofs.YthijhmidmhgfaaaW.PrintWords (Aside0)
def needsOf (md : Region.Mode) (o : Oper) : List Nat := (o.after.toList.filter (fun e => Region.binds md e)).map (fun e => e.on)
def clashOf (md : Region.Mode) (ops : Array Oper) (i : Nat) (oi : Oper) : List Nat := (List.range ops.size).filter fun j => !(j == i) && match ops[j]? with
  | some oj => !(oj.after.any (fun e => Region.binds md e && e.on == i) || oi.apart ops oj)
  | none => false
/-- No select in it; for each operation: what must have come up before it, and what may not come up behind it if it is taken first. -/
def rtab (md : Region.Mode) (ops : Array Oper) : Bool × List (List Nat × List Nat) := (Region.noSelect ops, (List.range ops.size).map fun i => match ops[i]? with
  | some o => (needsOf md o, clashOf md ops i o)
  | none => ([], []))
def readyAt (T : List (List Nat × List Nat)) (l : List Bool) (i : Nat) : Bool := !l.getD i true && match T[i]? with
  | some r => r.1.all (fun j => l.getD j false)
  | none => false
def readyT (T : List (List Nat × List Nat)) (l : List Bool) : List Nat := (List.range T.length).filter (readyAt T l)
def freeT (T : List (List Nat × List Nat)) (l : List Bool) (i : Nat) : Bool := match T[i]? with
  | some r => r.2.all (fun j => l.getD j true)
  | none => false
def closedT (T : List (List Nat × List Nat)) (l : List Bool) : Bool := (List.range T.length).all fun j => !l.getD j false || match T[j]? with
  | some r => r.1.all (fun k => l.getD k false)
  | none => true
def reachT (T : List (List Nat × List Nat)) (i : Nat) : Nat → Nat → Bool
  | 0, _ => false
  | fuel + 1, d => match T[d]? with
    | some r => r.1.any fun j => j == i || reachT T i fuel j
    | none => false
def lastT (T : List (List Nat × List Nat)) (l : List Bool) (ds : List Nat) (i : Nat) : Bool := ds.all fun d => l.getD d true || reachT T i T.length d
section
variable {md : Region.Mode} {ops : Array Oper} {T : Bool × List (List Nat × List Nat)} {l l' li lj lk : Array Bool} {ds : List Nat} {i j k : Nat}
theorem gd (l : Array Bool) (j : Nat) (b : Bool) : l.getD j b = l.toList.getD j b := by simp [Array.getD_eq_getD_getElem?, List.getD_eq_getElem?_getD]
theorem needs_all (o : Oper) (p : Nat → Bool) : o.after.all (fun e => !Region.binds md e || p e.on) = (needsOf md o).all p := by
  unfold needsOf
  rw [← Array.all_toList]
  induction o.after.toList with
  | nil => rfl
  | cons e r ih =>
    rw [List.all_cons, ih, List.filter_cons]
    cases h : Region.binds md e <;> simp
theorem needs_any (o : Oper) (p : Nat → Bool) : o.after.any (fun e => Region.binds md e && p e.on) = (needsOf md o).any p := by
  unfold needsOf
  rw [← Array.any_toList]
  induction o.after.toList with
  | nil => rfl
  | cons e r ih =>
    rw [List.any_cons, ih, List.filter_cons]
    cases h : Region.binds md e <;> simp
theorem rtab_length : (rtab md ops).2.length = ops.size := by simp [rtab]
theorem rtab_some {o : Oper} (h : ops[i]? = some o) : (rtab md ops).2[i]? = some (needsOf md o, clashOf md ops i o) := by
  have hi := (Array.getElem?_eq_some_iff.1 h).1
  unfold rtab
  rw [List.getElem?_map, List.getElem?_range hi, Option.map_some, h]
theorem rtab_none (h : ops[i]? = none) : (rtab md ops).2[i]? = none := by
  have hi : ops.size ≤ i := Array.getElem?_eq_none_iff.1 h
  exact List.getElem?_eq_none (by rw [rtab_length]; exact hi)
theorem readyAt_eq : readyAt (rtab md ops).2 l.toList i = (!l.getD i true && ((ops[i]?).map (·.after.all fun e => !Region.binds md e || l.getD e.on false)).getD false) := by
  unfold readyAt
  rw [gd]
  cases h : ops[i]? with
  | none => rw [rtab_none h]; rfl
  | some o =>
    rw [rtab_some h]
    simp only [Option.map_some, Option.getD_some]
    rw [← needs_all]
    simp only [gd]
theorem ready_eq : Region.ready md ops l = readyT (rtab md ops).2 l.toList := by
  unfold Region.ready readyT
  rw [rtab_length]
  refine List.filter_congr (fun i _ => ?_)
  rw [readyAt_eq]
theorem free_eq : Region.free md ops l i = freeT (rtab md ops).2 l.toList i := by
  unfold Region.free freeT
  cases h : ops[i]? with
  | none => rw [rtab_none h]
  | some oi =>
    rw [rtab_some h]
    simp only [clashOf]
    rw [List.all_filter]
    congr 1
    funext j
    rw [gd]
    cases hj : ops[j]? with
    | none => cases (j == i) <;> cases (l.toList.getD j true) <;> simp
    | some oj =>
      cases (j == i) <;> cases (l.toList.getD j true) <;> cases (oj.after.any (fun e => Region.binds md e && e.on == i) || oi.apart ops oj) <;> simp_all
theorem closed_eq : Region.closedB md ops l = closedT (rtab md ops).2 l.toList := by
  unfold Region.closedB closedT
  rw [rtab_length]
  congr 1
  funext j
  rw [gd]
  cases h : ops[j]? with
  | none => rw [rtab_none h]
  | some o =>
    rw [rtab_some h]
    simp only
    rw [← needs_all]
    simp only [gd]
theorem reach_eq : ∀ (fuel d : Nat), Region.reachB md ops i fuel d = reachT (rtab md ops).2 i fuel d
  | 0, _ => rfl
  | fuel + 1, d => by
    unfold Region.reachB reachT
    cases h : ops[d]? with
    | none => rw [rtab_none h]
    | some o =>
      rw [rtab_some h]
      simp only
      rw [← needs_any]
      congr 1
      funext e
      rw [reach_eq fuel]
theorem last_eq : Region.lastB md ops l ds i = lastT (rtab md ops).2 l.toList ds i := by
  unfold Region.lastB lastT
  rw [rtab_length]
  congr 1
  funext d
  rw [gd, reach_eq]
theorem readyAt_mem (h : readyAt T.2 l.toList i = true) (hT : rtab md ops = T) : (Region.ready md ops l).contains i = true := by
  subst hT
  rw [ready_eq]
  unfold readyT
  rw [List.contains_iff_mem, List.mem_filter, List.mem_range]
  refine ⟨?_, h⟩
  unfold readyAt at h
  rw [Bool.and_eq_true] at h
  cases hq : (rtab md ops).2[i]? with
  | none => rw [hq] at h; simp at h
  | some r => exact (List.getElem?_eq_some_iff.1 hq).1
theorem set_of (h : (l.toList.set i true == l'.toList) = true) : (l.setIfInBounds i true == l') = true := by
  rw [beq_iff_eq] at h ⊢
  apply Array.ext'
  rw [Array.toList_setIfInBounds]
  exact h
def anyT (T : Bool × List (List Nat × List Nat)) (l l' : List Bool) (i : Nat) : Bool := T.1 && freeT T.2 l i && readyAt T.2 l i && (l.set i true == l')
/-- pure_'s condition out of the table. -/
theorem any_of (hT : rtab md ops = T) (h : anyT T l.toList l'.toList i = true) : anyB md ops l l' i = true := by
  simp only [anyT, Bool.and_eq_true] at h
  obtain ⟨⟨⟨h1, h2⟩, h3⟩, h4⟩ := h
  have h5 := readyAt_mem h3 hT
  have h6 := set_of h4
  subst hT
  simp only [anyB, Bool.and_eq_true]
  exact ⟨⟨⟨h1, by rw [free_eq]; exact h2⟩, h5⟩, h6⟩
def takeT (T : Bool × List (List Nat × List Nat)) (ds : List Nat) (l l' : List Bool) (i : Nat) : Bool := T.1 && freeT T.2 l i && readyAt T.2 l i && closedT T.2 l && lastT T.2 l ds i && (l.set i true == l')
/-- take_'s. -/
theorem take_of (hT : rtab md ops = T) (h : takeT T ds l.toList l'.toList i = true) : takeB md ops ds l l' i = true := by
  simp only [takeT, Bool.and_eq_true] at h
  obtain ⟨⟨⟨⟨⟨h1, h2⟩, h3⟩, h4⟩, h5⟩, h6⟩ := h
  have h7 := readyAt_mem h3 hT
  have h8 := set_of h6
  subst hT
  simp only [takeB, Bool.and_eq_true]
  exact ⟨⟨⟨⟨⟨h1, by rw [free_eq]; exact h2⟩, h7⟩, by rw [closed_eq]; exact h4⟩, by rw [last_eq]; exact h5⟩, h8⟩
/-- one_'s and last_'s. -/
theorem one_of (hT : rtab md ops = T) (h : (readyT T.2 l.toList == [i] && l.toList.set i true == l'.toList) = true) : readyB md ops l l' i = true := by
  simp only [Bool.and_eq_true] at h
  obtain ⟨h1, h2⟩ := h
  subst hT
  simp only [readyB, Bool.and_eq_true]
  exact ⟨by rw [ready_eq]; exact h1, set_of h2⟩
/-- done_'s. -/
theorem done_of (hT : rtab md ops = T) (h : (readyT T.2 l.toList == []) = true) : (Region.ready md ops l == []) = true := by
  subst hT
  rw [ready_eq]
  exact h
/-- What d waits for, as_ bits: told in the table (B), checked in one pass: each bit is a need of d, or a bit of an earlier need's. -/
def upM (B : List Nat) (d : Nat) : List Nat → Nat
  | [] => 0
  | n :: r => (2 ^ n ||| (if n < d then B.getD n 0 else 0)) ||| upM B d r
def waitsOk (T : List (List Nat × List Nat)) (B : List Nat) : Bool := (List.range T.length).all fun d => match T[d]? with
  | some r => (B.getD d 0 ||| upM B d r.1) == upM B d r.1
  | none => false
theorem upM_bit {B : List Nat} {d i : Nat} : ∀ {ns : List Nat}, (upM B d ns).testBit i = true → ∃ n ∈ ns, n = i ∨ (n < d ∧ (B.getD n 0).testBit i = true)
  | [], h => by simp [upM] at h
  | n :: r, h => by
    unfold upM at h
    rw [Nat.testBit_or, Nat.testBit_or, Bool.or_eq_true, Bool.or_eq_true] at h
    rcases h with (h | h) | h
    · rw [Nat.testBit_two_pow] at h
      exact ⟨n, List.mem_cons_self, .inl (by simpa using h)⟩
    · by_cases hn : n < d
      · rw [if_pos hn] at h
        exact ⟨n, List.mem_cons_self, .inr ⟨hn, h⟩⟩
      · rw [if_neg hn] at h
        simp at h
    · obtain ⟨m, hm, h2⟩ := upM_bit h
      exact ⟨m, List.mem_cons_of_mem _ hm, h2⟩
theorem reach_bit {T : List (List Nat × List Nat)} {B : List Nat} (hB : waitsOk T B = true) : ∀ (fuel d : Nat), d < fuel → d < T.length → (B.getD d 0).testBit i = true → reachT T i fuel d = true
  | 0, d, h, _, _ => by omega
  | fuel + 1, d, h, hd, hb => by
    have h1 := List.all_eq_true.1 hB d (List.mem_range.2 hd)
    cases hr : T[d]? with
    | none => rw [hr] at h1; simp at h1
    | some r =>
      rw [hr] at h1
      simp only [beq_iff_eq] at h1
      have h2 : (upM B d r.1).testBit i = true := by rw [← h1, Nat.testBit_or, hb, Bool.true_or]
      obtain ⟨n, hn, h3⟩ := upM_bit h2
      unfold reachT
      rw [hr]
      simp only
      rw [List.any_eq_true]
      refine ⟨n, hn, ?_⟩
      rcases h3 with rfl | ⟨h4, h5⟩
      · simp
      · rw [reach_bit hB fuel n (by omega) (by omega) h5, Bool.or_true]
def lastW (T : List (List Nat × List Nat)) (B : List Nat) (l : List Bool) (ds : List Nat) (i : Nat) : Bool := ds.all fun d => l.getD d true || (decide (d < T.length) && (B.getD d 0).testBit i)
def takeW (T : Bool × List (List Nat × List Nat)) (B : List Nat) (ds : List Nat) (l l' : List Bool) (i : Nat) : Bool := T.1 && freeT T.2 l i && readyAt T.2 l i && closedT T.2 l && lastW T.2 B l ds i && (l.set i true == l')
/-- take_'s, by the bits. -/
theorem take_ofW {B : List Nat} (hT : rtab md ops = T) (hB : waitsOk T.2 B = true) (h : takeW T B ds l.toList l'.toList i = true) : takeB md ops ds l l' i = true := by
  refine take_of hT ?_
  simp only [takeW, takeT, Bool.and_eq_true] at h ⊢
  obtain ⟨⟨⟨⟨⟨h1, h2⟩, h3⟩, h4⟩, h5⟩, h6⟩ := h
  refine ⟨⟨⟨⟨⟨h1, h2⟩, h3⟩, h4⟩, ?_⟩, h6⟩
  unfold lastW at h5
  unfold lastT
  rw [List.all_eq_true] at h5 ⊢
  intro d hd
  have h7 := h5 d hd
  rw [Bool.or_eq_true, Bool.and_eq_true, decide_eq_true_eq] at h7
  rcases h7 with h7 | ⟨h8, h9⟩
  · rw [h7, Bool.true_or]
  · rw [reach_bit hB _ d h8 h8 h9, Bool.or_true]
end
/-- The operations of a region, by its number. -/
def opsIn : Code → Nat → Option (Array Oper)
  | .region id ops _, k => if id == k then some ops else none
  | .seq a b, k => match opsIn a k with
    | some o => some o
    | none => opsIn b k
  | .cond _ a b, k => match opsIn a k with
    | some o => some o
    | none => opsIn b k
  | .block _ c, k => opsIn c k
  | .loop c, k => opsIn c k
  | .scope c, k => opsIn c k
  | .rangeFunc _ _ a b, k => match opsIn a k with
    | some o => some o
    | none => opsIn b k
  | _, _ => none
def opsOf (f : Func) (k : Nat) : Array Oper := ((f.body.bind fun c => opsIn c k)).getD #[]
end Go.Proofs.YthijhmidmhgfaaaW.PrintLast

set_option linter.unusedVariables false
set_option linter.unusedSimpArgs false
namespace Go.Proofs.Ythijhmidmhgfaaa
open Go.RowKit Go.Proofs.YthijhmidmhgfaaaW.PrintWords Go.Proofs.YthijhmidmhgfaaaW.PrintLast
/-- what is listed behind the first k operations of the order o -/
def lst (n : Nat) (o : List Nat) (k : Nat) : Array Bool := ((List.range n).map fun j => (o.take k).contains j).toArray
/-- a step of the order o; kinds: 0 pure, 1 reads, 2 alone, 3 alone and nothing is shown behind it -/
def okStep (T : Bool × List (List Nat × List Nat)) (B : List Nat) (ds : List Nat) (o : List Nat) (kd : List Nat) (k : Nat) : Bool :=
  let n := T.2.length
  let l := (lst n o k).toList
  let l' := (lst n o (k + 1)).toList
  let i := o.getD k n
  match kd.getD i 9 with
  | 0 => anyT T l l' i
  | 1 => takeW T B ds l l' i
  | 2 => (readyT T.2 l == [i] && l.set i true == l') && !ds.contains i
  | 3 => (readyT T.2 l == [i] && l.set i true == l') && ds.contains i
  | _ => false
def okAll (T : Bool × List (List Nat × List Nat)) (B : List Nat) (ds : List Nat) (o : List Nat) (kd : List Nat) : Bool :=
  (List.range o.length).all (okStep T B ds o kd) && (readyT T.2 (lst T.2.length o o.length).toList == [])
section
variable {P : Program} {ops : Array Oper} {Q : Exit → Act → World → Prop} {S : World → Prop} {ds : List Nat} {T : Bool × List (List Nat × List Nat)} {B : List Nat} {o kd : List Nat}
/-- the way through a region from the k-th step on -/
def way (P : Program) (ops : Array Oper) (Q : Exit → Act → World → Prop) (S : World → Prop) (ds o : List Nat) (k : Nat) (a : Act) (w : World) : Prop :=
  wpAnyLast P .any ops Q S ds (o.length - k) (lst ops.size o k) a w
structure Plan (ops : Array Oper) (ds o kd : List Nat) : Prop where
  plan : ∃ (T : Bool × List (List Nat × List Nat)) (B : List Nat), rtab .any ops = T ∧ waitsOk T.2 B = true ∧ okAll T B ds o kd = true
theorem plan_mk (T : Bool × List (List Nat × List Nat)) (B : List Nat) (h1 : rtab .any ops = T) (h2 : waitsOk T.2 B = true) (h3 : okAll T B ds o kd = true) : Plan ops ds o kd := ⟨T, B, h1, h2, h3⟩
theorem plan_step {k i : Nat} (pl : Plan ops ds o kd) (hi : o[k]? = some i) : ∃ (T : Bool × List (List Nat × List Nat)) (B : List Nat), rtab .any ops = T ∧ waitsOk T.2 B = true ∧ k < o.length ∧ T.2.length = ops.size ∧ o.getD k T.2.length = i ∧ okStep T B ds o kd k = true := by
  obtain ⟨T, B, h1, h2, h3⟩ := pl.plan
  have hk : k < o.length := (List.getElem?_eq_some_iff.1 hi).1
  refine ⟨T, B, h1, h2, hk, by rw [← h1]; exact rtab_length, by rw [List.getD_eq_getElem?_getD, hi]; rfl, ?_⟩
  unfold okAll at h3
  rw [Bool.and_eq_true] at h3
  exact List.all_eq_true.1 h3.1 k (List.mem_range.2 hk)
theorem lst_zero (n : Nat) (o : List Nat) : Array.replicate n false = lst n o 0 := by
  apply Array.ext'
  simp only [lst, Array.toList_replicate]
  apply List.ext_getElem <;> simp
theorem way_start {id : Nat} {a : Act} {w : World} (S : World → Prop) (pl : Plan ops ds o kd) (hm : P.follows .mixedOrders = true) (hn : o.length = ops.size) (hS : S w.drew) (h : S w.drew → way P ops Q S ds o 0 a w.drew) : (Code.region id ops true).wp P Q a w := by
  refine start_ (n := ops.size) (S := S) (ds := ds) (lst ops.size o 0) hm rfl (lst_zero _ _) hS (fun hs => ?_)
  have := h hs
  unfold way at this
  rwa [Nat.sub_zero, hn] at this
theorem way_pure {a : Act} {w : World} {k i : Nat} {oi : Oper} {v : Value} (pl : Plan ops ds o kd) (hi : o[k]? = some i) (hk : kd[i]? = some 0) (ho : ops.toList[i]? = some oi)
    (hQ : ∀ c a w, Q (.panic c) (a.put oi.dst v) w → Q (.panic c) a w) (hy : Yields P ops oi v a) {a' : Act} (ha : a.put oi.dst v = a') (h : way P ops Q S ds o (k + 1) a' w) : way P ops Q S ds o k a w := by
  obtain ⟨T, B, h1, h2, hl, hsz, hg, hs⟩ := plan_step pl hi
  rw [Array.getElem?_toList] at ho
  unfold way at h ⊢
  rw [show o.length - k = o.length - (k + 1) + 1 by omega]
  unfold okStep at hs
  dsimp only at hs
  rw [hg, List.getD_eq_getElem?_getD, hk, hsz] at hs
  exact pure_ (i := i) (N := oi.dst) (lst ops.size o (k + 1)) ho rfl (any_of h1 hs) hQ hy ha h
theorem way_take {a : Act} {w : World} {k i : Nat} {oi : Oper} {v : Value} (pl : Plan ops ds o kd) (hi : o[k]? = some i) (hk : kd[i]? = some 1) (ho : ops.toList[i]? = some oi)
    (hQ : ∀ c a w, Q (.panic c) (a.put oi.dst v) w → Q (.panic c) a w) (hy : YieldsIf P ops S oi v a) (hS : S w) {a' : Act} (ha : a.put oi.dst v = a') (h : way P ops Q S ds o (k + 1) a' w) : way P ops Q S ds o k a w := by
  obtain ⟨T, B, h1, h2, hl, hsz, hg, hs⟩ := plan_step pl hi
  rw [Array.getElem?_toList] at ho
  unfold way at h ⊢
  rw [show o.length - k = o.length - (k + 1) + 1 by omega]
  unfold okStep at hs
  dsimp only at hs
  rw [hg, List.getD_eq_getElem?_getD, hk, hsz] at hs
  exact take_ (i := i) (N := oi.dst) (lst ops.size o (k + 1)) ho rfl (take_ofW h1 h2 hs) hQ hy hS ha h
theorem way_one {a : Act} {w : World} {k i : Nat} {oi : Oper} (pl : Plan ops ds o kd) (hi : o[k]? = some i) (hk : kd[i]? = some 2) (ho : ops.toList[i]? = some oi)
    (h : ∀ K : Act → World → Prop, Shut (∀ a' w', S w' → (S w' → way P ops Q S ds o (k + 1) a' w') → K a' w') → if Region.wanted oi (yielded ops a.tmps) = true then Oper.wp P oi a w K Q else K (a.put oi.dst undef) w) : way P ops Q S ds o k a w := by
  obtain ⟨T, B, h1, h2, hl, hsz, hg, hs⟩ := plan_step pl hi
  rw [Array.getElem?_toList] at ho
  unfold way at h ⊢
  rw [show o.length - k = o.length - (k + 1) + 1 by omega]
  unfold okStep at hs
  dsimp only at hs
  rw [hg, List.getD_eq_getElem?_getD, hk, hsz] at hs
  simp only [Option.getD_some, Bool.and_eq_true, Bool.not_eq_true'] at hs
  refine one_ (i := i) (N := oi.dst) (lst ops.size o (k + 1)) ho rfl (one_of h1 (by simp only [Bool.and_eq_true]; exact hs.1)) (fun hm => ?_) h
  have := hs.2
  rw [← Bool.not_eq_true] at this
  exact this (List.contains_iff_mem.2 hm)
theorem way_last {a : Act} {w : World} {k i : Nat} {oi : Oper} (pl : Plan ops ds o kd) (hi : o[k]? = some i) (hk : kd[i]? = some 3) (ho : ops.toList[i]? = some oi)
    (h : ∀ K : Act → World → Prop, Shut (∀ a' w', way P ops Q S ds o (k + 1) a' w' → K a' w') → if Region.wanted oi (yielded ops a.tmps) = true then Oper.wp P oi a w K Q else K (a.put oi.dst undef) w) : way P ops Q S ds o k a w := by
  obtain ⟨T, B, h1, h2, hl, hsz, hg, hs⟩ := plan_step pl hi
  rw [Array.getElem?_toList] at ho
  unfold way at h ⊢
  rw [show o.length - k = o.length - (k + 1) + 1 by omega]
  unfold okStep at hs
  dsimp only at hs
  rw [hg, List.getD_eq_getElem?_getD, hk, hsz] at hs
  simp only [Option.getD_some, Bool.and_eq_true] at hs
  exact last_ (i := i) (N := oi.dst) (lst ops.size o (k + 1)) ho rfl (one_of h1 (by simp only [Bool.and_eq_true]; exact hs.1)) (List.contains_iff_mem.1 hs.2) h
theorem way_norm {a a' : Act} {w : World} {k : Nat} (ha : a = a') (h : way P ops Q S ds o k a' w) : way P ops Q S ds o k a w := by
  subst ha
  exact h
theorem way_done {a : Act} {w : World} {k : Nat} (pl : Plan ops ds o kd) (hk : o[k]? = none) (hk2 : k ≤ o.length) (h : Q .normal a w) : way P ops Q S ds o k a w := by
  obtain ⟨T, B, h1, h2, h3⟩ := pl.plan
  have hl : o.length ≤ k := List.getElem?_eq_none_iff.1 hk
  obtain rfl : k = o.length := by omega
  unfold okAll at h3
  rw [Bool.and_eq_true] at h3
  unfold way
  refine done_ (done_of h1 ?_) h
  have := h3.2
  rwa [show T.2.length = ops.size by rw [← h1]; exact rtab_length] at this
/-- how an activation's values are put -/
theorem aw : (∀ (a : Act) (dst : Option Tmp) (v : Value), a.put dst v = match dst with
    | some d => { a with tmps := a.tmps.setIfInBounds d v }
    | none => a) ∧ (∀ (l : List Value) (i : Nat) (v : Value), l.toArray.setIfInBounds i v = (l.set i v).toArray) ∧ (∀ (x : Value) (l : List Value) (v : Value), (x :: l).set 0 v = v :: l) ∧ (∀ (x : Value) (l : List Value) (i : Nat) (v : Value), (x :: l).set (i + 1) v = x :: l.set i v) ∧ (∀ n : Int, IntKind.i64.wrap n = wrap64 n) ∧ (∀ n : Int, IntKind.i32.wrap n = wrap32 n) :=
  ⟨fun a dst v => by cases dst <;> rfl, fun l i v => by simp, fun _ _ _ => rfl, fun _ _ _ _ => rfl, i64_w, i32_w⟩
theorem exec_load_row {o : Oper} {a : Act} {w : World} (ty : TypeId) (x : Operand) (ho : o.op = .load ty x)
    (g : Nat) (hx : a.eval x = .pointer (some ⟨g, 0, none⟩)) (t : TypeId) (cs : Array Value) (fr : Nat × Nat) (d : TypeDesc) (hg : w.heap[g]? = some (.cells cs t fr))
    (hu : P.underlying ty = some d) (hd : (match d with | .struct _ | .array _ _ => true | _ => false) = true) (hi : (P.info? ty).map (·.size) = some cs.size) : (execOp a.eval o).run P w = .ok (.value (.agg cs)) w := by
  unfold execOp
  simp only [ho, hx, Instr.loadAt, Instr.sureAddr, Sem.run_bind, Sem.run_pure, Result.andThen_ok, run_loadVar_row w g t ty cs fr d hg hu hd hi]
theorem exec_map_update {o : Oper} {a : Act} {w w1 : World} {m k v : Value} (t : TypeId) (x y z : Operand) (ho : o.op = .mapUpdate t x y z) (hx : a.eval x = m) (hy : a.eval y = k) (hz : a.eval z = v)
    (h : (Instr.mapUpdate t m k v).run P w = .ok () w1) : (execOp a.eval o).run P w = .ok .skip w1 := by
  unfold execOp
  simp only [ho, hx, hy, hz, Sem.run_bind, Sem.run_pure, Result.andThen_ok, h]
end
end Go.Proofs.Ythijhmidmhgfaaa

set_option linter.unusedVariables false
set_option linter.unusedSimpArgs false
namespace Go.Proofs.Ythijhmidmhgfaaa
open Go.RowKit Go.Proofs.YthijhmidmhgfaaaW.PrintWords Go.Proofs.YthijhmidmhgfaaaW.PrintLast
/-- of the old blocks those of F alone may have turned -/
structure Touch (F : Nat → Prop) (w w' : World) : Prop where
  os : w'.os = w.os
  tape : w'.tape = w.tape
  output : w'.output = w.output
  size : w.heap.size ≤ w'.heap.size
  block : ∀ k, k < w.heap.size → ¬ F k → w'.heap[k]? = w.heap[k]?
section
variable {F G : Nat → Prop} {w w1 w2 : World}
theorem Touch.refl (F : Nat → Prop) (w : World) : Touch F w w := ⟨rfl, rfl, rfl, Nat.le_refl _, fun _ _ _ => rfl⟩
theorem Touch.of (h : Below w.heap.size w w1) : Touch F w w1 := ⟨h.os, h.tape, h.output, h.size, fun k hk _ => h.block k hk⟩
theorem Touch.trans (h : Touch F w w1) (h2 : Touch G w1 w2) (hg : ∀ k, G k → F k ∨ w.heap.size ≤ k) : Touch F w w2 :=
  ⟨h2.os.trans h.os, h2.tape.trans h.tape, h2.output.trans h.output, Nat.le_trans h.size h2.size, fun k hk hf => by
    rw [h2.block k (Nat.lt_of_lt_of_le hk h.size) (fun hG => by
      rcases hg k hG with h3 | h3
      · exact hf h3
      · omega), h.block k hk hf]⟩
theorem Touch.same (h : Touch F w w1) (h2 : Touch F w1 w2) : Touch F w w2 := h.trans h2 (fun _ hk => .inl hk)
theorem Touch.then (h : Touch F w w1) (h2 : Below w1.heap.size w1 w2) : Touch F w w2 := h.same (Touch.of h2)
theorem Touch.mono (h : Touch F w w1) (hg : ∀ k, F k → G k) : Touch G w w1 := ⟨h.os, h.tape, h.output, h.size, fun k hk hn => h.block k hk (fun hf => hn (hg k hf))⟩
theorem Touch.set (h : Touch F w w1) (p : Addr) (u : Value) (hp : F p.block ∨ w.heap.size ≤ p.block) : Touch F w (w1.setCell p u) :=
  ⟨h.os, h.tape, h.output, by simpa [World.setCell] using h.size, fun k hk hn => by
    rw [Below.heap_setCell w1 p u k (fun e => by
      rcases hp with hp | hp
      · exact hn (e ▸ hp)
      · omega)]
    exact h.block k hk hn⟩
theorem Touch.grown (h : Touch F w w1) {row : Option Nat} (hg : w1.grownBy w2 row) (hr : ∀ k, row = some k → F k ∨ w.heap.size ≤ k) : Touch F w w2 :=
  ⟨hg.os.trans h.os, hg.tape.trans h.tape, hg.output.trans h.output, Nat.le_trans h.size hg.size, fun k hk hn => by
    rw [hg.block k (Nat.lt_of_lt_of_le hk h.size) (fun e => by
      rcases hr k e.symm with hp | hp
      · exact hn hp
      · omega), h.block k hk hn]⟩
theorem Touch.alloc (h : Touch F w w1) (o : Obj) : Touch F w (w1.alloc o) := h.then (below_alloc (Below.refl _ _) o)
theorem Touch.drew (h : Touch F w w1) : Touch F w w1.drew := h.then (below_drew (Below.refl _ _))
theorem Touch.blk (h : Touch F w w1) {g : Nat} {o : Obj} (hb : w.heap[g]? = some o) (hf : ¬ F g) : w1.heap[g]? = some o := (h.block g (blk_lt hb) hf).trans hb
theorem Touch.below {B : Nat} (h : Touch F w1 w2) (hb : Below B w w1) (hB : B ≤ w1.heap.size) (hF : ∀ k, F k → B ≤ k) : Below B w w2 :=
  hb.trans ⟨h.os, h.tape, h.output, h.size, fun k hk => h.block k (by omega) (fun hf => by have := hF k hf; omega)⟩
/-- a store into block b -/
theorem Touch.put {b : Nat} (h : Touch (fun k => k = b) w w1) (i : Nat) (u : Value) : Touch (fun k => k = b) w (w1.setCell ⟨b, i, none⟩ u) := h.set _ _ (.inl rfl)
theorem Kd.R_touch {α : Type} {d : Kd α} {e base : Nat} {ok : Nat → Prop} {v : Value} {xs : List α} (h : d.R e w base ok v xs) (ht : Touch F w w1) (hd : ∀ k, ok k → ¬ F k) : d.R e w1 base ok v xs :=
  Kd.R_step h (fun k hk hl => ht.block k hl (hd k hk))
end
/-- what a call on an object of footprint F has touched; F' is the new footprint -/
structure Step (F F' : Nat → Prop) (w w' : World) : Prop where
  touch : Touch F w w'
  new : ∀ k, F' k → F k ∨ w.heap.size ≤ k
theorem Step.refl (F : Nat → Prop) (w : World) : Step F F w w := ⟨Touch.refl _ _, fun _ h => .inl h⟩
theorem Step.of {F : Nat → Prop} {w w' : World} (h : Below w.heap.size w w') : Step F F w w' := ⟨Touch.of h, fun _ h => .inl h⟩
theorem Step.trans {F G H : Nat → Prop} {w w1 w2 : World} (h : Step F G w w1) (h2 : Step G H w1 w2) : Step F H w w2 :=
  ⟨h.touch.trans h2.touch h.new, fun k hk => by
    rcases h2.new k hk with h3 | h3
    · exact h.new k h3
    · exact .inr (Nat.le_trans h.touch.size h3)⟩
theorem Step.then {F G : Nat → Prop} {w w1 w2 : World} (h : Step F G w w1) (h2 : Below w1.heap.size w1 w2) : Step F G w w2 := ⟨h.touch.then h2, h.new⟩
theorem Step.ahead {F G : Nat → Prop} {w w1 w2 : World} (h : Below w.heap.size w w1) (h2 : Step F G w1 w2) : Step F G w w2 := (Step.of h).trans h2
/-- a row of texts -/
def kBs : Kd (List UInt8) := Kd.scalar (fun l : List UInt8 => Value.string (bs l)) (fun _ => rfl)
/-- a row of numbers with a text -/
def kWr : Kd (Int × List UInt8) := Kd.iso (Kd.pair (Kd.int .i64) kBs) (fun x => x)
theorem kWr_open {w : World} {x : Int × List UInt8} {cs : List Value} (h : kWr.K w x cs) : cs = [.int .i64 x.1, .string (bs x.2)] := by
  obtain ⟨c0, c1, rfl, h0, h1⟩ := h
  have h0' : c0 = [.int .i64 x.1] := h0
  have h1' : c1 = [.string (bs x.2)] := h1
  rw [h0', h1']
  rfl
theorem kWr_mkM (w : World) (base : Nat) (ok : Nat → Prop) (x : Int × List UInt8) : kWr.M w base ok x [.int .i64 x.1, .string (bs x.2)] := ⟨[.int .i64 x.1], [.string (bs x.2)], rfl, rfl, rfl⟩
theorem kWr_mk (w : World) (x : Int × List UInt8) : kWr.K w x [.int .i64 x.1, .string (bs x.2)] := ⟨[.int .i64 x.1], [.string (bs x.2)], rfl, rfl, rfl⟩
def zWr : Int × List UInt8 := (0, [])
/-- an element of a row that is read -/
theorem at_bs {w : World} {A : Option Addr} {n : Nat} {xs : List (List UInt8)} (h : kBs.C w A n xs) (i : Int) (h0 : 0 ≤ i) (h1 : i < n) : ∃ ad, A = some ad ∧ w.cell? (ad.add i.toNat) = some (.string (bs (rdOf [] xs i))) := by
  obtain ⟨ad, c, hA, hl, hK, hc⟩ := Kd.C_get h [] i h0 h1
  have hK' : c = [.string (bs (rdOf [] xs i))] := hK
  subst hK'
  refine ⟨ad, hA, ?_⟩
  have := hc 0 _ rfl
  simpa [kBs, Kd.scalar] using this
theorem at_wr {w : World} {A : Option Addr} {n : Nat} {xs : List (Int × List UInt8)} (h : kWr.C w A n xs) (i : Int) (h0 : 0 ≤ i) (h1 : i < n) :
    ∃ ad, A = some ad ∧ w.cell? (ad.add (i.toNat * 2)) = some (.int .i64 (rdOf zWr xs i).1) ∧ w.cell? ⟨(ad.add (i.toNat * 2)).block, (ad.add (i.toNat * 2)).off + 1, none⟩ = some (.string (bs (rdOf zWr xs i).2)) := by
  obtain ⟨ad, c, hA, hl, hK, hc⟩ := Kd.C_get h zWr i h0 h1
  have hK' := kWr_open hK
  subst hK'
  have e0 := hc 0 _ rfl
  have e1 := hc 1 _ rfl
  refine ⟨ad, hA, ?_, ?_⟩
  · simpa [kWr, Kd.iso, Kd.pair, kBs, Kd.int, Kd.scalar, rdOf] using e0
  · have : ad.add (i.toNat * 2 + 1) = ⟨(ad.add (i.toNat * 2)).block, (ad.add (i.toNat * 2)).off + 1, none⟩ := by
      obtain ⟨b, o, p⟩ := ad
      unfold Addr.add
      split <;> split <;> simp_all [Nat.add_assoc]
    rw [← this]
    simpa [kWr, Kd.iso, Kd.pair, kBs, Kd.int, Kd.scalar, rdOf] using e1
section
variable {P : Program} {ops : Array Oper} {rest : List Oper} {o : Oper} {a : Act} {Q : Exit → Act → World → Prop}
/-- append(v, x), x without rows of its own, onto a row that is anywhere -/
theorem append_one {α : Type} (d : Kd α) {W : World} (hgd : o.guard = none) (s x : Operand) (t e : TypeId) (z : Value) (bytes : Nat)
    (ho : o.op = .call { callee := .builtin .append, args := #[s, x], argTypes := #[t, t] })
    (ht : P.underlying t = some (.slice e)) (hinfo : (P.info? e).map (fun i => (i.zero, i.size, i.bytes)) = some (some z, d.sz, bytes)) (hz : z.cells.size = d.sz) (hs0 : 0 < d.sz) (hb0 : 0 < bytes)
    (v : Value) (xs : List α) (p : α) (cs : List Value) (ok : Nat → Prop) (hs : a.eval s = v) (hx : a.eval x = .slice (some ⟨W.heap.size, 0, none⟩) 1 1) (hp : d.M W 0 (fun _ => False) p cs)
    (HO : d.R e W 0 ok v xs) (hl : (xs.length + 1) * bytes ≤ 140737488355328)
    (h : ∀ A1 c1 w1, d.R e w1 0 (fun k => ok k ∨ W.heap.size ≤ k) (.slice A1 (xs.length + 1) c1) (xs ++ [p]) → W.grownBy w1 v.ownBlock → wpList P ops Q rest (a.put o.dst (.slice A1 (xs.length + 1) c1)) w1) :
    wpList P ops Q (o :: rest) a (W.alloc (.cells cs.toArray e)) := by
  refine Kd.R_append d (w0 := W) 0 hgd s x t e z bytes ho ht hinfo hz hs0 hb0 v xs p cs (fun k => ok k ∨ W.heap.size ≤ k) (fun _ => False) hs hx hp (fun _ hk => hk.elim) (fun _ hk => .inr hk) (Kd.R_mono HO (fun _ hk => .inl hk)) (Below.refl _ _) (Nat.zero_le _) hl ?_
  intro v1 w1 hR hB hg hat
  obtain ⟨A, c, hv⟩ := Kd.R_slice hR
  rw [List.length_append, List.length_singleton] at hv
  subst hv
  exact h A c w1 hR hg
end
theorem grow_touch {α : Type} {d : Kd α} {e : Nat} {W w1 : World} {v : Value} {xs : List α} {ok F : Nat → Prop} (h : d.R e W 0 ok v xs) (hg : W.grownBy w1 v.ownBlock) (hF : ∀ k, ok k → F k) : Touch F W w1 :=
  (Touch.refl F W).grown hg (fun k hk => .inl (hF k (h.1 k hk)))
theorem bs_cell {W : World} {e base g cap : Nat} {ok : Nat → Prop} {xs : List (List UInt8)} (h : kBs.R e W base ok (.slice (some ⟨g, 0, none⟩) xs.length cap) xs) (i : Int) (h0 : 0 ≤ i) (hi : i < xs.length) :
    W.cell? ⟨g, i.toNat, none⟩ = some (.string (bs (rdOf [] xs i))) ∧ W.frozen? ⟨g, i.toNat, none⟩ = false := Kd.R_cell (enc := fun l : List UInt8 => Value.string (bs l)) (h1 := fun _ => rfl) [] h i h0 hi
theorem bs_put {W : World} {e base g cap : Nat} {ok : Nat → Prop} {xs : List (List UInt8)} (h : kBs.R e W base ok (.slice (some ⟨g, 0, none⟩) xs.length cap) xs) (i : Int) (t : List UInt8) :
    kBs.R e (W.setCell ⟨g, i.toNat, none⟩ (.string (bs t))) base ok (.slice (some ⟨g, 0, none⟩) xs.length cap) (xs.set i.toNat t) := (Kd.R_put (enc := fun l : List UInt8 => Value.string (bs l)) (h1 := fun _ => rfl) h i t).1
theorem add_block (a : Addr) (j : Nat) : (a.add j).block = a.block := by
  unfold Addr.add
  split <;> rfl
theorem ReadsRow_touch {α : Type} {R : α → List Value → Prop} {sz n : Nat} {w w1 : World} {A : Option Addr} {xs : List α} {F : Nat → Prop} (h : ReadsRow R sz w A n xs) (ht : Touch F w w1) (hA : ∀ ad, A = some ad → 0 < n → ¬ F ad.block) : ReadsRow R sz w1 A n xs := by
  refine ⟨h.1, h.2.1, fun hn => ?_⟩
  obtain ⟨ad, e, hc⟩ := h.2.2 hn
  refine ⟨ad, e, fun j p hj => ?_⟩
  obtain ⟨c, hl, hR, hcell⟩ := hc j p hj
  refine ⟨c, hl, hR, fun i u hu => ?_⟩
  have h2 := hcell i u hu
  have hb := World.block_lt_of_cell? w _ h2
  rw [add_block] at hb
  rw [← h2]
  exact World.cell?_of_block (w := w) (by rw [add_block]; exact ht.block _ hb (hA ad e hn))
theorem kWr_C_touch {n : Nat} {w w1 : World} {A : Option Addr} {xs : List (Int × List UInt8)} {F : Nat → Prop} (h : kWr.C w A n xs) (ht : Touch F w w1) (hA : ∀ ad, A = some ad → 0 < n → ¬ F ad.block) : kWr.C w1 A n xs := ReadsRow_touch h ht hA
end Go.Proofs.Ythijhmidmhgfaaa

set_option linter.unusedVariables false
set_option linter.unusedSimpArgs false
namespace Go.Proofs.Ythijhmidmhgfaaa
open Go.RowKit Go.Proofs.YthijhmidmhgfaaaW.PrintWords Go.Proofs.YthijhmidmhgfaaaW.PrintLast
def halfStep (x : Int) : Int := if bits .and .u64 x 1 == 1 then bits .xor .u64 (x / 2) 14514072000185962306 else x / 2
def halfN (i : Int) : Nat → Int
  | 0 => i
  | n + 1 => halfStep (halfN i n)
def halfV (i : Nat) : Int := halfN (i : Int) 4
theorem bits_u64 (op : BinOp) (a b : Int) : 0 ≤ bits op .u64 a b ∧ bits op .u64 a b < 18446744073709551616 := by
  unfold bits
  have h : ∀ n : Int, IntKind.u64.wrap n = n % 18446744073709551616 := fun n => by simp [IntKind.wrap, IntKind.bits, IntKind.signed]
  dsimp only
  rw [h]
  omega
theorem halfStep_range (x : Int) (h : 0 ≤ x ∧ x < 18446744073709551616) : 0 ≤ halfStep x ∧ halfStep x < 18446744073709551616 := by
  unfold halfStep
  split
  · exact bits_u64 _ _ _
  · omega
theorem halfN_range (i : Int) (h : 0 ≤ i ∧ i < 18446744073709551616) : ∀ n, 0 ≤ halfN i n ∧ halfN i n < 18446744073709551616
  | 0 => h
  | n + 1 => halfStep_range _ (halfN_range i h n)
/-- the table, its first k entries filled -/
def harr (k : Nat) : Array Value := ((List.range 16).map fun j => Value.int .u64 (if j < k then halfV j else 0)).toArray
theorem harr_size (k : Nat) : (harr k).size = 16 := by simp [harr]
theorem harr_get (k j : Nat) (h : j < 16) : (harr k)[j]? = some (.int .u64 (if j < k then halfV j else 0)) := by
  unfold harr
  rw [List.getElem?_toArray, List.getElem?_map, List.getElem?_range h]
  rfl
theorem harr_set (k : Nat) (h : k < 16) : (harr k).setIfInBounds k (.int .u64 (halfV k)) = harr (k + 1) := by
  apply Array.ext'
  rw [Array.toList_setIfInBounds]
  unfold harr
  apply List.ext_getElem?
  intro j
  simp only [List.getElem?_set, List.length_map, List.length_range, List.getElem?_map]
  by_cases e : k = j
  · subst e
    rw [if_pos rfl, if_pos h, List.getElem?_range h]
    simp
  · rw [if_neg e]
    by_cases hj : j < 16
    · rw [List.getElem?_range hj]
      simp only [Option.map_some]
      congr 2
      by_cases h2 : j < k
      · rw [if_pos h2, if_pos (by omega)]
      · rw [if_neg h2, if_neg (by omega)]
    · rw [List.getElem?_eq_none (by simp; omega)]
      rfl
theorem harr_one (k : Nat) : ∀ q ∈ (harr k).toList, q.oneCell' = true := by
  unfold harr
  intro q hq
  rw [List.mem_map] at hq
  obtain ⟨j, _, rfl⟩ := hq
  rfl
theorem arr_info : (Try.prog.info? 163).map (·.size) = some 16 := by kernel_rfl
set_option maxRecDepth 100000 in
theorem halves_any (w : World) : Calls Try.prog 115 #[] w fun e w' => e = .returned (.agg (harr 16)) ∧ Below w.heap.size w w' := by
  go_enter Try.func115, Try.ntmps115
  go_wp2
  generalize hwx : World.alloc (World.alloc w _) _ = wx
  have hb0 : wx.heap[w.heap.size]? = some (.cells (harr 0) 163 (0, 0)) := by rw [← hwx]; exact blk_alloc (blk_new w _) _
  have hb1 : wx.heap[w.heap.size + 1]? = some (.cells (harr 0) 163 (0, 0)) := by
    rw [← hwx]
    have h := blk_new (w.alloc (.cells (harr 0) 163)) (.cells (harr 0) 163 (0, 0))
    rw [show (w.alloc (.cells (harr 0) 163)).heap.size = w.heap.size + 1 by simp [go_sem]] at h
    exact h
  have hbl : Below w.heap.size w wx := by rw [← hwx]; exact below_alloc (below_alloc (Below.refl _ _) _) _
  have HB0 := Lib.hid hb0
  have HB1 := Lib.hid hb1
  have HBL := Lib.hid hbl
  clear hb0 hb1 hbl hwx
  go_loopw [5] (fun i wr => ∃ k : Nat, k ≤ 16 ∧ i = .int .i64 k ∧ Hid (wr.heap[w.heap.size]? = some (.cells (harr 0) 163 (0, 0))) ∧ Hid (wr.heap[w.heap.size + 1]? = some (.cells (harr k) 163 (0, 0))) ∧ Hid (Below w.heap.size w wr)) (fun i _ => 16 - (intOf i).toNat)
  case atStart => exact ⟨0, by omega, rfl, HB0, HB1, HBL⟩
  case round =>
    clear HB0 HB1 HBL
    obtain ⟨k, hk, rfl, HB0, HB1, HBL⟩ := hrel
    by_cases hlt : k < 16
    · have c1 := (blk_cell HB1.out k).trans (harr_get k k hlt)
      have f1 := blk_frozen HB1.out k
      go_wp2
      go_loop [3, 10] (fun x j => ∃ q : Nat, q ≤ 4 ∧ j = .int .i64 q ∧ x = .int .u64 (halfN k q)) (fun _ j => 4 - (intOf j).toNat)
      case atStart => exact ⟨0, by omega, rfl, rfl⟩
      case round =>
        obtain ⟨q, hq, rfl, rfl⟩ := hrel
        by_cases hlt2 : q < 4
        · obtain ⟨h0, h1⟩ := halfN_range (k : Int) (by omega) q
          have HN : Hid (halfN k (q + 1) = halfStep (halfN k q)) := Lib.hid rfl
          generalize halfN k q = x0 at *
          cases hb : (bits .and .u64 x0 1 == 1) with
          | true =>
            have HS : Hid (halfStep x0 = bits .xor .u64 (x0 / 2) 14514072000185962306) := Lib.hid (by unfold halfStep; rw [hb]; rfl)
            go_wp2
            exact ⟨⟨q + 1, by omega, by go_num, by rw [HN.out, HS.out]⟩, by simp [intOf]; omega⟩
          | false =>
            have HS : Hid (halfStep x0 = x0 / 2) := Lib.hid (by unfold halfStep; rw [hb]; rfl)
            go_wp2
            exact ⟨⟨q + 1, by omega, by go_num, by rw [HN.out, HS.out]⟩, by simp [intOf]; omega⟩
        · obtain rfl : q = 4 := by omega
          have HV : Hid (halfN k 4 = halfV k) := Lib.hid rfl
          generalize halfN k 4 = y at *
          go_wp2
          have e := HV.out
          subst e
          exact ⟨⟨k + 1, by omega, by go_num, Lib.hid (blk_far HB0.out (by show w.heap.size ≠ w.heap.size + 1; omega) _), Lib.hid (blk_put HB1.out k _ (harr_set k hlt)), Lib.hid (HBL.out.setCell (by show w.heap.size ≤ w.heap.size + 1; omega) _)⟩, by simp [intOf]; omega⟩
    · obtain rfl : k = 16 := by omega
      have hst := run_storeCells_cells (P := Try.prog) w.heap.size 0 (harr 16).toList 0 wr (fun j hj => by rw [blk_cell HB0.out]; simp [harr_size]; rw [Array.length_toList, harr_size] at hj; omega) (fun j _ => blk_frozen HB0.out _) (harr_one 16)
      have hz := harr_size 16
      go_wp2_with (refine wpList_load_row rfl 163 (.tmp 1) rfl (w.heap.size + 1) rfl 163 (harr 16) (0, 0) _ HB1.out Try.underlying163 rfl (by rw [arr_info, harr_size]) ?_)
      obtain ⟨cur, hcur, hcs, hcl⟩ := setCells_row (g := w.heap.size) (harr 16).toList 0 wr (harr 0) HB0.out (by rw [harr_size, Array.length_toList, harr_size]; exact Nat.le_refl _)
      have hce : cur = harr 16 := by
        apply Array.ext'
        rw [hcl, List.take_zero, List.nil_append, List.drop_of_length_le (by simp [harr_size]), List.append_nil]
      subst hce
      have hbl : Below w.heap.size w (wr.setCells w.heap.size 0 (harr 16).toList) := by
        obtain ⟨h1, h2, h3, h4⟩ := setCells_same w.heap.size (harr 16).toList 0 wr
        exact HBL.out.trans ⟨h1, h2, h3, by rw [h4]; exact Nat.le_refl _, fun k hk => setCells_far _ _ k (by omega)⟩
      exact bodyPost_ret (results_cell_row rfl _ _ w.heap.size 163 (harr 16) (0, 0) _ rfl hcur Try.underlying163 rfl (by rw [arr_info, harr_size])) rfl ⟨rfl, hbl⟩
def notU (x : Int) : Int := bits .xor .u64 IntKind.u64.max x
def crcHalf (x : Int) : Int := bits .xor .u64 (x / 16) (halfV (x % 16).toNat)
def crcByte (x : Int) (c : UInt8) : Int := crcHalf (crcHalf (bits .xor .u64 x (c.toNat : Int)))
def crcAll (x : Int) (l : List UInt8) : Int := l.foldl crcByte x
theorem crcHalf_range (x : Int) : 0 ≤ crcHalf x ∧ crcHalf x < 18446744073709551616 := bits_u64 _ _ _
theorem crcAll_take (x : Int) (l : List UInt8) (k : Nat) (h : k < l.length) : crcAll x (l.take (k + 1)) = crcByte (crcAll x (l.take k)) (l[k]'h) := by
  unfold crcAll
  rw [List.take_succ_eq_append_getElem h, List.foldl_append]
  rfl
theorem crcAll_range (x : Int) (hx : 0 ≤ x ∧ x < 18446744073709551616) (l : List UInt8) : 0 ≤ crcAll x l ∧ crcAll x l < 18446744073709551616 := by
  unfold crcAll
  induction l generalizing x with
  | nil => exact hx
  | cons c l ih =>
    rw [List.foldl_cons]
    exact ih _ (crcHalf_range _)
theorem and15 (x : Int) (h0 : 0 ≤ x) (h1 : x < 18446744073709551616) : bits .and .u64 x 15 = x % 16 :=
  bits_mask .u64 64 (by decide) (fun n h0 h1 => by have e : IntKind.u64.wrap n = n % 18446744073709551616 := by simp [IntKind.wrap, IntKind.bits, IntKind.signed]
                                                   rw [e]; omega) 4 (by decide) x h0 h1
set_option maxRecDepth 100000 in
theorem sumOn_any (w : World) (s : Int) (l : List UInt8) (h0 : 0 ≤ s) (h1 : s < 18446744073709551616) (hl : l.length ≤ 140737488351232) : Calls Try.prog 99 #[.int .u64 s, .string (bs l)] w fun e w' => e = .returned (.int .u64 (notU (crcAll (notU s) l))) ∧ Below w.heap.size w w' := by
  have HH := fun w' => Lib.hid (halves_any w')
  have hst := fun w' : World => run_storeCells_new (P := Try.prog) w' 163 #[.int .u64 0, .int .u64 0, .int .u64 0, .int .u64 0, .int .u64 0, .int .u64 0, .int .u64 0, .int .u64 0, .int .u64 0, .int .u64 0, .int .u64 0, .int .u64 0, .int .u64 0, .int .u64 0, .int .u64 0, .int .u64 0] (harr 16) (by rw [arr_info, harr_size]) (by rw [harr_size]; rfl) (by decide +kernel)
  have hz := harr_size 16
  have hs : (bs l).size = l.length := bs_size l
  go_enter Try.func99, Try.ntmps99
  go_wp2_with (go_at_call 115; with_reducible refine (HH _).out.mono ?_; rintro e w1 ⟨rfl, hb1⟩; have HB1 := Lib.hid hb1; clear hb1)
  have HX : Hid (bits .xor .u64 IntKind.u64.max s = notU s) := Lib.hid rfl
  have hn := bits_u64 .xor IntKind.u64.max s
  rw [HX.out] at hn ⊢
  generalize hs0 : notU s = s0 at *
  have HS0 := Lib.hid hs0
  clear HX hs0
  go_loop [6, 13] (fun x i => ∃ k : Nat, k ≤ l.length ∧ i = .int .i64 k ∧ x = .int .u64 (crcAll s0 (l.take k))) (fun _ i => l.length - (intOf i).toNat)
  case atStart => exact ⟨0, Nat.zero_le _, rfl, rfl⟩
  case round =>
    obtain ⟨k, hk, rfl, rfl⟩ := hrel
    by_cases hlt : k < l.length
    · have HN := Lib.hid (crcAll_take s0 l k hlt)
      obtain ⟨r0, r1⟩ := crcAll_range s0 hn (l.take k)
      have hg : (bs l)[k]'(by rw [bs_size]; exact hlt) = l[k] := rfl
      have HC : Hid (∀ i, i < 16 → (w1.alloc (.cells (harr 16) 163)).cell? ⟨w1.heap.size, i, none⟩ = some (.int .u64 (halfV i))) := Lib.hid (fun i hi => by rw [blk_cell (blk_new w1 _), harr_get 16 i hi, if_pos hi])
      generalize crcAll s0 (l.take k) = x at *
      have HB : Hid (crcByte x l[k] = crcHalf (crcHalf (bits .xor .u64 x (l[k].toNat : Int)))) := Lib.hid rfl
      generalize l[k] = c at *
      have hc : (c.toNat : Int) < 256 := by have := c.toNat_lt; omega
      have hc0 : 0 ≤ (c.toNat : Int) := by omega
      obtain ⟨X1, e1⟩ : ∃ y, bits .xor .u64 x (c.toNat : Int) = y := ⟨_, rfl⟩
      obtain ⟨p0, p1⟩ := bits_u64 .xor x (c.toNat : Int)
      rw [e1] at p0 p1 HB
      have a1 := and15 _ p0 p1
      have m0 : 0 ≤ X1 % 16 := by omega
      have m1 : X1 % 16 < 16 := by omega
      have c1 := HC.out (X1 % 16).toNat (by omega)
      obtain ⟨X2, e2⟩ : ∃ y, bits .xor .u64 (X1 / 16) (halfV (X1 % 16).toNat) = y := ⟨_, rfl⟩
      obtain ⟨q0, q1⟩ := bits_u64 .xor (X1 / 16) (halfV (X1 % 16).toNat)
      rw [e2] at q0 q1
      rw [show crcHalf X1 = X2 from e2] at HB
      have a2 := and15 _ q0 q1
      have m2 : 0 ≤ X2 % 16 := by omega
      have m3 : X2 % 16 < 16 := by omega
      have c2 := HC.out (X2 % 16).toNat (by omega)
      rw [show crcHalf X2 = bits .xor .u64 (X2 / 16) (halfV (X2 % 16).toNat) from rfl] at HB
      go_wp2
      exact ⟨⟨k + 1, by omega, by go_num, by rw [HN.out, HB.out]⟩, by simp [intOf]; omega⟩
    · obtain rfl : k = l.length := by omega
      rw [List.take_length]
      have HX2 : Hid (bits .xor .u64 IntKind.u64.max (crcAll s0 l) = notU (crcAll s0 l)) := Lib.hid rfl
      go_wp2
      go_ret
      refine ⟨?_, (below_then HB1.out HB1.out.size (below_alloc (Below.refl _ _) _))⟩
      rw [HS0.out]
      rfl
def crcV (l : List UInt8) : Int := notU (crcAll (notU 0) l)
theorem crcV_range (l : List UInt8) : 0 ≤ crcV l ∧ crcV l < 18446744073709551616 := by
  unfold crcV notU
  exact bits_u64 _ _ _
theorem sumOf_any (w : World) (l : List UInt8) (hl : l.length ≤ 140737488351232) : Calls Try.prog 87 #[.string (bs l)] w fun e w' => e = .returned (.int .u64 (crcV l)) ∧ Below w.heap.size w w' := by
  have HS := Lib.hid (sumOn_any w 0 l (by decide) (by decide) hl)
  go_enter Try.func87, Try.ntmps87
  go_wp2_with (go_at_call 99; with_reducible refine HS.out.mono ?_; rintro e w1 ⟨rfl, hb⟩)
  go_ret
  exact ⟨rfl, hb⟩
end Go.Proofs.Ythijhmidmhgfaaa

set_option linter.unusedVariables false
set_option linter.unusedSimpArgs false
namespace Go.Proofs.Ythijhmidmhgfaaa
open Go.RowKit Go.Proofs.YthijhmidmhgfaaaW.PrintWords Go.Proofs.YthijhmidmhgfaaaW.PrintLast
structure Dk where
  seen : List (List UInt8)
  safe : List (List UInt8)
  pend : List (Int × List UInt8)
  fall : Int
  off : Bool
  opn : Bool
/-- does the power go now? -/
def Dk.falls (d : Dk) : Dk := if 0 < d.fall then (if d.fall = 1 then { d with fall := 0, off := true, opn := true } else { d with fall := d.fall - 1 }) else d
def Dk.put (d : Dk) (n : Int) (t : List UInt8) : Dk := { d with seen := d.seen.set n.toNat t, pend := d.pend ++ [(n, t)] }
def Dk.isb (d : Dk) (n : Int) : Bool := decide (0 ≤ n) && decide (n < (d.seen.length : Int))
def Dk.write (d : Dk) (n : Int) (t : List UInt8) : Dk × Int :=
  if d.off then (d, 9) else if !d.isb n || !(t.length == 512) then (d, 1) else if d.falls.off then (d.falls, 9) else (d.falls.put n t, 0)
def laidOn (l : List (List UInt8)) (p : List (Int × List UInt8)) : List (List UInt8) := p.foldl (fun l x => l.set x.1.toNat x.2) l
def Dk.flush (d : Dk) : Dk × Int :=
  if d.off then (d, 9) else if d.falls.off then (d.falls, 9) else ({ d.falls with safe := laidOn d.safe d.pend, pend := [] }, 0)
def Dk.read (d : Dk) (n : Int) : List UInt8 × Int :=
  if d.off then ([], 9) else if !d.isb n then ([], 1) else (rdOf [] d.seen n, 0)
/-- a disk in bounds -/
structure Dk.Ok (d : Dk) : Prop where
  lo : 0 ≤ d.fall
  hi : d.fall ≤ 9223372036854775807
  len : d.seen.length ≤ 8192
  safe : d.safe.length = d.seen.length
  pend : d.pend.length ≤ 1000000
  at_ : ∀ x ∈ d.pend, 0 ≤ x.1 ∧ x.1 < (d.seen.length : Int)
structure DiskRows (w : World) (bd : Nat) (Fs Ff Fp : Nat → Prop) (vs vf vp : Value) (d : Dk) : Prop where
  blk : w.heap[bd]? = some (.cells #[vs, vf, vp, .int .i64 d.fall, .bool d.off, .bool d.opn] 113 (0, 0))
  seen : kBs.R 9 w 0 Fs vs d.seen
  safe : kBs.R 9 w 0 Ff vf d.safe
  pend : kWr.R 147 w 0 Fp vp d.pend
  sf : ∀ k, Fs k → ¬ Ff k
  sp : ∀ k, Fs k → ¬ Fp k
  fp : ∀ k, Ff k → ¬ Fp k
  bs_ : ¬ Fs bd
  bf : ¬ Ff bd
  bp : ¬ Fp bd
  lt : ∀ k, Fs k ∨ Ff k ∨ Fp k → k < w.heap.size
def dset (bd : Nat) (Fs Ff Fp : Nat → Prop) : Nat → Prop := fun k => k = bd ∨ Fs k ∨ Ff k ∨ Fp k
def DiskIs (w : World) (bd : Nat) (F : Nat → Prop) (d : Dk) : Prop := ∃ Fs Ff Fp vs vf vp, DiskRows w bd Fs Ff Fp vs vf vp d ∧ ∀ k, dset bd Fs Ff Fp k → F k
theorem DiskRows.touch {w w1 : World} {bd : Nat} {Fs Ff Fp G : Nat → Prop} {vs vf vp : Value} {d : Dk} (h : DiskRows w bd Fs Ff Fp vs vf vp d) (ht : Touch G w w1) (hd : ∀ k, dset bd Fs Ff Fp k → ¬ G k) : DiskRows w1 bd Fs Ff Fp vs vf vp d where
  blk := ht.blk h.blk (hd _ (.inl rfl))
  seen := Kd.R_touch h.seen ht (fun k hk => hd k (.inr (.inl hk)))
  safe := Kd.R_touch h.safe ht (fun k hk => hd k (.inr (.inr (.inl hk))))
  pend := Kd.R_touch h.pend ht (fun k hk => hd k (.inr (.inr (.inr hk))))
  sf := h.sf
  sp := h.sp
  fp := h.fp
  bs_ := h.bs_
  bf := h.bf
  bp := h.bp
  lt := fun k hk => Nat.lt_of_lt_of_le (h.lt k hk) ht.size
theorem DiskIs.touch {w w1 : World} {bd : Nat} {F G : Nat → Prop} {d : Dk} (h : DiskIs w bd F d) (ht : Touch G w w1) (hd : ∀ k, F k → ¬ G k) : DiskIs w1 bd F d := by
  obtain ⟨Fs, Ff, Fp, vs, vf, vp, hr, hF⟩ := h
  exact ⟨Fs, Ff, Fp, vs, vf, vp, hr.touch ht (fun k hk => hd k (hF k hk)), hF⟩
theorem DiskIs.below {w w1 : World} {bd : Nat} {F : Nat → Prop} {d : Dk} (h : DiskIs w bd F d) (hb : Below w.heap.size w w1) : DiskIs w1 bd F d := h.touch (Touch.of (F := fun _ => False) hb) (fun _ _ hf => hf)
theorem DiskIs.in_ {w : World} {bd : Nat} {F : Nat → Prop} {d : Dk} (h : DiskIs w bd F d) : F bd := by
  obtain ⟨Fs, Ff, Fp, vs, vf, vp, hr, hF⟩ := h
  exact hF _ (.inl rfl)
/-- the slices' forms -/
theorem DiskRows.form {w : World} {bd : Nat} {Fs Ff Fp : Nat → Prop} {vs vf vp : Value} {d : Dk} (h : DiskRows w bd Fs Ff Fp vs vf vp d) : ∃ A c A1 c1 A2 c2, vs = .slice A d.seen.length c ∧ vf = .slice A1 d.safe.length c1 ∧ vp = .slice A2 d.pend.length c2 := by
  obtain ⟨A, c, e⟩ := Kd.R_slice h.seen
  obtain ⟨A1, c1, e1⟩ := Kd.R_slice h.safe
  obtain ⟨A2, c2, e2⟩ := Kd.R_slice h.pend
  exact ⟨A, c, A1, c1, A2, c2, e, e1, e2⟩
theorem dsectors (w : World) (bd : Nat) (F : Nat → Prop) (d : Dk) (h : DiskIs w bd F d) : Calls Try.prog 40 #[.pointer (some ⟨bd, 0, none⟩)] w fun e w' => e = .returned (.int .i64 (d.seen.length : Int)) ∧ w = w' := by
  obtain ⟨Fs, Ff, Fp, vs, vf, vp, h, hF⟩ := h
  obtain ⟨A, c, A1, c1, A2, c2, rfl, rfl, rfl⟩ := h.form
  have c0 := blk_cell h.blk 0
  clear h
  go_enter Try.func40, Try.ntmps40
  go_wp2
  go_ret
  exact ⟨rfl, rfl⟩
theorem doff (w : World) (bd : Nat) (F : Nat → Prop) (d : Dk) (h : DiskIs w bd F d) : Calls Try.prog 36 #[.pointer (some ⟨bd, 0, none⟩)] w fun e w' => e = .returned (.bool d.off) ∧ w = w' := by
  obtain ⟨Fs, Ff, Fp, vs, vf, vp, h, hF⟩ := h
  have c0 := blk_cell h.blk 4
  clear h
  go_enter Try.func36, Try.ntmps36
  go_wp2
  go_ret
  exact ⟨rfl, rfl⟩
theorem dis (w : World) (bd : Nat) (F : Nat → Prop) (d : Dk) (n : Int) (h : DiskIs w bd F d) : Calls Try.prog 78 #[.pointer (some ⟨bd, 0, none⟩), .int .i64 n] w fun e w' => e = .returned (.bool (d.isb n)) ∧ w = w' := by
  obtain ⟨Fs, Ff, Fp, vs, vf, vp, h, hF⟩ := h
  obtain ⟨A, c, A1, c1, A2, c2, rfl, rfl, rfl⟩ := h.form
  have c0 := blk_cell h.blk 0
  clear h
  by_cases q : 0 ≤ n
  · have b1 : decide (0 ≤ n) = true := decide_eq_true q
    have HB : Hid (decide (n < (d.seen.length : Int)) = d.isb n) := Lib.hid (by unfold Dk.isb; rw [b1]; rfl)
    go_enter Try.func78, Try.ntmps78
    go_wp2
    go_ret
    exact ⟨ret_bool HB.out, rfl⟩
  · have b1 : decide (0 ≤ n) = false := decide_eq_false q
    have HB : Hid (false = d.isb n) := Lib.hid (by unfold Dk.isb; rw [b1]; rfl)
    go_enter Try.func78, Try.ntmps78
    go_wp2
    go_ret
    exact ⟨ret_bool HB.out, rfl⟩
theorem dread (w : World) (bd : Nat) (F : Nat → Prop) (d : Dk) (n : Int) (h : DiskIs w bd F d) : Calls Try.prog 59 #[.pointer (some ⟨bd, 0, none⟩), .int .i64 n] w fun e w' => e = .returned (.tuple #[.string (bs (d.read n).1), .int .i64 (d.read n).2]) ∧ w = w' := by
  have HI := Lib.hid (dis w bd F d n h)
  obtain ⟨Fs, Ff, Fp, vs, vf, vp, h, hF⟩ := h
  obtain ⟨A, c, A1, c1, A2, c2, rfl, rfl, rfl⟩ := h.form
  have c0 := blk_cell h.blk 0
  have c4 := blk_cell h.blk 4
  cases q : d.off with
  | true =>
    rw [q] at c4
    have HR : Hid (d.read n = ([], 9)) := Lib.hid (by unfold Dk.read; rw [q]; rfl)
    clear h q
    go_enter Try.func59, Try.ntmps59
    go_wp2
    go_ret2
    exact ⟨by rw [HR.out]; rfl, rfl⟩
  | false =>
    rw [q] at c4
    cases q2 : d.isb n with
    | false =>
      have HR : Hid (d.read n = ([], 1)) := Lib.hid (by unfold Dk.read; rw [q, q2]; rfl)
      rw [q2] at HI
      clear h q q2
      go_enter Try.func59, Try.ntmps59
      go_wp2_with (go_at_call 78; with_reducible refine HI.out.mono ?_; rintro e w1 ⟨rfl, rfl⟩)
      go_ret2
      exact ⟨by rw [HR.out]; rfl, rfl⟩
    | true =>
      have HR : Hid (d.read n = (rdOf [] d.seen n, 0)) := Lib.hid (by unfold Dk.read; rw [q, q2]; rfl)
      have q3 := q2
      unfold Dk.isb at q3
      rw [Bool.and_eq_true, decide_eq_true_eq, decide_eq_true_eq] at q3
      rw [q2] at HI
      obtain ⟨A', c', he, hl, hC⟩ := Kd.R_reads h.seen
      obtain ⟨rfl, _, rfl⟩ : A = A' ∧ True ∧ c = c' := by
        injection he with e1 e2 e3
        exact ⟨e1, trivial, e3⟩
      obtain ⟨ad, rfl, hcell⟩ := at_bs hC n q3.1 q3.2
      have q4 := q3.1
      have q5 := q3.2
      clear h q q2 q3 he hC
      go_enter Try.func59, Try.ntmps59
      go_wp2_with (go_at_call 78; with_reducible refine HI.out.mono ?_; rintro e w1 ⟨rfl, rfl⟩)
      go_ret2
      exact ⟨by rw [HR.out]; rfl, rfl⟩
theorem wr_info : (Try.prog.info? 147).map (fun i => (i.zero, i.size, i.bytes)) = some (some (.agg #[.int .i64 0, .string ⟨#[]⟩]), 2, 24) := by kernel_rfl
theorem bs_info : (Try.prog.info? 9).map (fun i => (i.zero, i.size, i.bytes)) = some (some (.string ⟨#[]⟩), 1, 16) := by kernel_rfl
theorem Dk.falls_same (d : Dk) (h : ¬ 0 < d.fall) : d.falls = d := by unfold Dk.falls; rw [if_neg h]
theorem Dk.falls_fields (d : Dk) : d.falls.seen = d.seen ∧ d.falls.safe = d.safe ∧ d.falls.pend = d.pend := by
  unfold Dk.falls
  split
  · split <;> exact ⟨rfl, rfl, rfl⟩
  · exact ⟨rfl, rfl, rfl⟩
theorem Dk.falls_ok {d : Dk} (h : d.Ok) : d.falls.Ok := by
  obtain ⟨e1, e2, e3⟩ := d.falls_fields
  have h1 := h.lo
  have h2 := h.hi
  refine ⟨?_, ?_, by rw [e1]; exact h.len, by rw [e1, e2]; exact h.safe, by rw [e3]; exact h.pend, by rw [e1, e3]; exact h.at_⟩ <;>
  · unfold Dk.falls
    split
    · split <;> simp <;> omega
    · omega
/-- the disk's own block is written, its rows stay -/
theorem DiskRows.reb {w w1 : World} {bd : Nat} {Fs Ff Fp : Nat → Prop} {vs vf vp : Value} {d d1 : Dk} (h : DiskRows w bd Fs Ff Fp vs vf vp d) (ht : Touch (fun k => k = bd) w w1) (hb : w1.heap[bd]? = some (.cells #[vs, vf, vp, .int .i64 d1.fall, .bool d1.off, .bool d1.opn] 113 (0, 0)))
    (e1 : d1.seen = d.seen) (e2 : d1.safe = d.safe) (e3 : d1.pend = d.pend) : DiskRows w1 bd Fs Ff Fp vs vf vp d1 where
  blk := hb
  seen := by rw [e1]; exact Kd.R_touch h.seen ht (fun k hk e => h.bs_ (e ▸ hk))
  safe := by rw [e2]; exact Kd.R_touch h.safe ht (fun k hk e => h.bf (e ▸ hk))
  pend := by rw [e3]; exact Kd.R_touch h.pend ht (fun k hk e => h.bp (e ▸ hk))
  sf := h.sf
  sp := h.sp
  fp := h.fp
  bs_ := h.bs_
  bf := h.bf
  bp := h.bp
  lt := fun k hk => Nat.lt_of_lt_of_le (h.lt k hk) ht.size
theorem dfalls (w : World) (bd : Nat) (Fs Ff Fp : Nat → Prop) (vs vf vp : Value) (d : Dk) (h : DiskRows w bd Fs Ff Fp vs vf vp d) (ho : d.Ok) : Calls Try.prog 98 #[.pointer (some ⟨bd, 0, none⟩)] w fun e w' => e = .returned (.bool d.falls.off) ∧ DiskRows w' bd Fs Ff Fp vs vf vp d.falls ∧ Touch (fun k => k = bd) w w' := by
  have HD := Lib.hid h
  obtain ⟨e1, e2, e3⟩ := d.falls_fields
  have HE := Lib.hid (And.intro e1 (And.intro e2 e3))
  have c3 := blk_cell h.blk 3
  have c4 := blk_cell h.blk 4
  have c5 := blk_cell h.blk 5
  have f3 := blk_frozen h.blk 3
  have f4 := blk_frozen h.blk 4
  have f5 := blk_frozen h.blk 5
  have h1 := ho.lo
  have h2 := ho.hi
  clear h ho e1 e2 e3
  by_cases q : 0 < d.fall
  · by_cases q2 : d.fall = 1
    · have HR : Hid (d.falls = { d with fall := 0, off := true, opn := true }) := Lib.hid (by unfold Dk.falls; rw [if_pos q, if_pos q2])
      rw [q2] at c3
      clear q q2 h1 h2
      go_enter Try.func98, Try.ntmps98
      go_wp2
      go_ret
      rw [HR.out]
      rw [HR.out] at HE
      refine ⟨rfl, HD.out.reb ?_ ?_ HE.out.1 HE.out.2.1 HE.out.2.2, ?_⟩
      · exact (((Touch.refl _ _).put _ _).put _ _).put _ _
      · exact blk_put (blk_put (blk_put HD.out.blk 3 _ rfl) 4 _ rfl) 5 _ rfl
      · exact (((Touch.refl _ _).put _ _).put _ _).put _ _
    · have HR : Hid (d.falls = { d with fall := d.fall - 1 }) := Lib.hid (by unfold Dk.falls; rw [if_pos q, if_neg q2])
      have b1 : decide (0 < d.fall) = true := decide_eq_true q
      have b2 : (d.fall - 1 == 0) = false := beq_eq_false_iff_ne.2 (by omega)
      have b3 : wrap64 (d.fall - 1) = d.fall - 1 := by unfold wrap64; omega
      clear q2
      go_enter Try.func98, Try.ntmps98
      go_wp2
      go_ret
      rw [HR.out]
      rw [HR.out] at HE
      refine ⟨rfl, HD.out.reb ?_ ?_ HE.out.1 HE.out.2.1 HE.out.2.2, ?_⟩
      · exact (Touch.refl _ _).put _ _
      · exact blk_put HD.out.blk 3 _ rfl
      · exact (Touch.refl _ _).put _ _
  · have HR : Hid (d.falls = d) := Lib.hid (d.falls_same q)
    have b1 : decide (0 < d.fall) = false := decide_eq_false q
    go_enter Try.func98, Try.ntmps98
    go_wp2
    go_ret
    rw [HR.out]
    exact ⟨rfl, HD.out, Touch.refl _ _⟩
theorem DiskIs.lt {w : World} {bd : Nat} {F : Nat → Prop} {d : Dk} (h : DiskIs w bd F d) : ∃ G : Nat → Prop, DiskIs w bd G d ∧ (∀ k, G k → F k) ∧ ∀ k, G k → k < w.heap.size := by
  obtain ⟨Fs, Ff, Fp, vs, vf, vp, hr, hF⟩ := h
  refine ⟨dset bd Fs Ff Fp, ⟨Fs, Ff, Fp, vs, vf, vp, hr, fun _ h => h⟩, hF, fun k hk => ?_⟩
  rcases hk with rfl | hk
  · exact blk_lt hr.blk
  · exact hr.lt k hk
/-- a text is put: into the row of what is seen, and behind the pending ones -/
theorem DiskRows.put_ {w1 w3 w4 : World} {bd g cap A3c : Nat} {Fs Ff Fp : Nat → Prop} {vf vp : Value} {A3 : Option Addr} {d : Dk} {n : Int} {t : List UInt8} (h : DiskRows w1 bd Fs Ff Fp (.slice (some ⟨g, 0, none⟩) d.seen.length cap) vf vp d)
    (hR : kWr.R 147 w3 0 (fun k => Fp k ∨ w1.heap.size ≤ k) (.slice A3 (d.pend.length + 1) A3c) (d.pend ++ [(n, t)])) (hg : (w1.setCell ⟨g, n.toNat, none⟩ (.string (bs t))).grownBy w3 vp.ownBlock)
    (h4 : w4 = w3.setCell ⟨bd, 2, none⟩ (.slice A3 (d.pend.length + 1) A3c)) :
    (∃ Fp', DiskRows w4 bd Fs Ff Fp' (.slice (some ⟨g, 0, none⟩) d.seen.length cap) vf (.slice A3 (d.pend.length + 1) A3c) (d.put n t) ∧ ∀ k, Fp' k → Fp k ∨ w1.heap.size ≤ k) ∧ Touch (dset bd Fs Ff Fp) w1 w4 := by
  have hgF : Fs g := h.seen.1 g (by simp [Value.ownBlock])
  have hsz : (w1.setCell ⟨g, n.toNat, none⟩ (.string (bs t))).heap.size = w1.heap.size := by simp [World.setCell]
  have t1 : Touch (dset bd Fs Ff Fp) w1 (w1.setCell ⟨g, n.toNat, none⟩ (.string (bs t))) := (Touch.refl _ _).set _ _ (.inl (.inr (.inl hgF)))
  have t2 : Touch (dset bd Fs Ff Fp) w1 w3 := t1.grown hg (fun k hk => .inl (.inr (.inr (.inr (h.pend.1 k hk)))))
  have t3 : Touch (dset bd Fs Ff Fp) w1 w4 := by rw [h4]; exact t2.set _ _ (.inl (.inl rfl))
  have hs1 := (Kd.R_put h.seen n t).1
  have tp : Touch Fp (w1.setCell ⟨g, n.toNat, none⟩ (.string (bs t))) w3 := (Touch.refl _ _).grown hg (fun k hk => .inl (h.pend.1 k hk))
  have tb : Touch (fun k => k = bd) w3 w4 := by rw [h4]; exact (Touch.refl _ _).put _ _
  refine ⟨⟨fun k => (Fp k ∨ w1.heap.size ≤ k) ∧ k < w3.heap.size, ?_, fun k hk => hk.1⟩, t3⟩
  have hb3 : w3.heap[bd]? = some (.cells #[.slice (some ⟨g, 0, none⟩) d.seen.length cap, vf, vp, .int .i64 d.fall, .bool d.off, .bool d.opn] 113 (0, 0)) :=
    blk_grown (blk_far h.blk (fun e => h.bs_ (e ▸ hgF)) _) hg (fun e => h.bp (h.pend.1 bd e.symm))
  refine { blk := ?_, seen := ?_, safe := ?_, pend := ?_, sf := h.sf, sp := ?_, fp := ?_, bs_ := h.bs_, bf := h.bf, bp := ?_, lt := ?_ }
  · rw [h4]; exact blk_put hb3 2 _ rfl
  · have h1 := Kd.R_touch (Kd.R_touch hs1 tp (fun k hk hp => h.sp k hk hp)) tb (fun k hk e => h.bs_ (e ▸ hk))
    exact h1
  · have t5 : Touch (fun k => k = bd ∨ Fs k ∨ Fp k) w1 w4 := by
      have a1 : Touch (fun k => k = bd ∨ Fs k ∨ Fp k) w1 (w1.setCell ⟨g, n.toNat, none⟩ (.string (bs t))) := (Touch.refl _ _).set _ _ (.inl (.inr (.inl hgF)))
      have a2 := a1.same (tp.mono (fun k hk => .inr (.inr hk)))
      exact a2.same (tb.mono (fun k hk => .inl hk))
    exact Kd.R_touch h.safe t5 (fun k hk hx => by
      rcases hx with rfl | hx | hx
      · exact h.bf hk
      · exact h.sf k hx hk
      · exact h.fp k hk hx)
  · have h1 := Kd.R_mono (Kd.R_bound hR) (ok' := fun k => (Fp k ∨ w1.heap.size ≤ k) ∧ k < w3.heap.size) (fun k hk => ⟨hk.1, hk.2.2.1⟩)
    refine Kd.R_touch h1 tb (fun k hk e => ?_)
    subst e
    rcases hk.1 with h2 | h2
    · exact h.bp h2
    · have := blk_lt h.blk
      omega
  · intro k hk hx
    rcases hx.1 with h2 | h2
    · exact h.sp k hk h2
    · have := h.lt k (.inl hk)
      omega
  · intro k hk hx
    rcases hx.1 with h2 | h2
    · exact h.fp k hk h2
    · have := h.lt k (.inr (.inl hk))
      omega
  · intro hx
    rcases hx.1 with h2 | h2
    · exact h.bp h2
    · have := blk_lt h.blk
      omega
  · intro k hk
    have s3 := t2.size
    have s4 := tb.size
    rcases hk with hk | hk | hk
    · have := h.lt k (.inl hk); omega
    · have := h.lt k (.inr (.inl hk)); omega
    · omega
end Go.Proofs.Ythijhmidmhgfaaa

set_option linter.unusedVariables false
set_option linter.unusedSimpArgs false
namespace Go.Proofs.Ythijhmidmhgfaaa
open Go.RowKit Go.Proofs.YthijhmidmhgfaaaW.PrintWords Go.Proofs.YthijhmidmhgfaaaW.PrintLast
def DStep (w : World) (bd : Nat) (F : Nat → Prop) (d : Dk) (r : Value) (e : Ending) (w' : World) : Prop := e = .returned r ∧ ∃ F', DiskIs w' bd F' d ∧ Step F F' w w'
set_option maxRecDepth 100000 in
theorem dwrite (w : World) (bd : Nat) (F : Nat → Prop) (d : Dk) (n : Int) (t : List UInt8) (h : DiskIs w bd F d) (ho : d.Ok) : Calls Try.prog 84 #[.pointer (some ⟨bd, 0, none⟩), .int .i64 n, .string (bs t)] w (DStep w bd F (d.write n t).1 (.int .i64 (d.write n t).2)) := by
  have HI := Lib.hid (dis w bd F d n h)
  have HD := Lib.hid h
  obtain ⟨Fs, Ff, Fp, vs, vf, vp, h, hF⟩ := h
  have HF := Lib.hid hF
  obtain ⟨A, c, A1, c1, A2, c2, rfl, rfl, rfl⟩ := h.form
  have c4 := blk_cell h.blk 4
  have h2 : (bs t).size = t.length := bs_size t
  cases q : d.off with
  | true =>
    rw [q] at c4
    have HR : Hid (d.write n t = (d, 9)) := Lib.hid (by unfold Dk.write; rw [q]; rfl)
    clear h q h2 hF
    go_enter Try.func84, Try.ntmps84
    go_wp2
    go_ret
    rw [HR.out]
    exact ⟨rfl, F, HD.out, Step.refl _ _⟩
  | false =>
    rw [q] at c4
    cases q2 : d.isb n with
    | false =>
      have HR : Hid (d.write n t = (d, 1)) := Lib.hid (by unfold Dk.write; rw [q, q2]; rfl)
      rw [q2] at HI
      clear h q q2 h2 hF
      go_enter Try.func84, Try.ntmps84
      go_wp2_with (go_at_call 78; with_reducible refine HI.out.mono ?_; rintro e w1 ⟨rfl, rfl⟩)
      go_ret
      rw [HR.out]
      exact ⟨rfl, F, HD.out, Step.refl _ _⟩
    | true =>
      rw [q2] at HI
      by_cases q3 : t.length = 512
      · have b3 : ((t.length : Int) != 512) = false := by rw [q3]; rfl
        have HA := Lib.hid (dfalls w bd Fs Ff Fp _ _ _ d h ho)
        cases q4 : d.falls.off with
        | true =>
          have HR : Hid (d.write n t = (d.falls, 9)) := Lib.hid (by unfold Dk.write; rw [q, q2, q3, q4]; rfl)
          rw [q4] at HA
          clear h q q2 q3 hF
          go_enter Try.func84, Try.ntmps84
          go_wp2_with (first
            | (go_at_call 78; with_reducible refine HI.out.mono ?_; rintro e w1 ⟨rfl, rfl⟩)
            | (go_at_call 98; with_reducible refine HA.out.mono ?_; rintro e w2 ⟨rfl, hd2, ht2⟩; have HD2 := Lib.hid hd2; have HT2 := Lib.hid ht2; clear hd2 ht2))
          go_ret
          rw [HR.out]
          exact ⟨rfl, F, ⟨_, _, _, _, _, _, HD2.out, HF.out⟩, HT2.out.mono (fun k hk => HF.out k (.inl hk)), fun _ hk => .inl hk⟩
        | false =>
          have HR : Hid (d.write n t = (d.falls.put n t, 0)) := Lib.hid (by unfold Dk.write; rw [q, q2, q3, q4]; rfl)
          rw [q4] at HA
          unfold Dk.isb at q2
          rw [Bool.and_eq_true, decide_eq_true_eq, decide_eq_true_eq] at q2
          obtain ⟨q5, q6⟩ := q2
          obtain ⟨e1, e2, e3⟩ := d.falls_fields
          have hpl := ho.pend
          obtain ⟨g, cap, hv, hg0, hgl, cells, hgb⟩ := Kd.R_form h.seen (by omega)
          obtain ⟨rfl, _, rfl⟩ : A = some ⟨g, 0, none⟩ ∧ True ∧ c = cap := by
            injection hv with e1 e2 e3
            exact ⟨e1, trivial, e3⟩
          have hne : ¬ g = bd := fun e => h.bs_ (e ▸ h.seen.1 g (by simp [Value.ownBlock]))
          have HE := Lib.hid (And.intro e1 (And.intro e2 e3))
          clear h q q3 hF e1 e2 e3 hv hgb hg0 ho
          go_enter Try.func84, Try.ntmps84
          go_wp2_with (first
            | (go_at_call 78; with_reducible refine HI.out.mono ?_; rintro e w1 ⟨rfl, rfl⟩)
            | (go_at_call 98; with_reducible refine HA.out.mono ?_; rintro e w2 ⟨rfl, hd2, ht2⟩; go_loud (have HD2 := Lib.hid hd2; have HT2 := Lib.hid ht2; have a0 := blk_cell hd2.blk 0; have a2 := blk_cell hd2.blk 2; have hs2 := hd2.seen; rw [HE.out.1] at hs2; have s1 := (bs_cell hs2 n q5 q6).1; have s2 := (bs_cell hs2 n q5 q6).2; have af := blk_frozen hd2.blk 2; clear hd2 ht2 hs2))
            | (at_builtin; go_loud (refine append_one kWr (W := w2.setCell ⟨g, n.toNat, none⟩ (.string (bs t))) rfl (.tmp 36) (.tmp 40) 111 147 _ 24 rfl Try.underlying111 wr_info rfl (by decide) (by decide) (.slice A2 d.pend.length c2) d.pend (n, t) _ Fp rfl (by simp [Act.eval, go_sem]) (kWr_mkM _ _ _ (n, t)) ?cR (by omega) ?_; (case cR => have := HD2.out.pend; rw [HE.out.2.2] at this; exact Kd.R_far this (p := ⟨g, n.toNat, none⟩) (fun k hk (e : k = g) => HD2.out.sp g (HD2.out.seen.1 g (by simp [Value.ownBlock])) (e ▸ hk)) _); intro A3 c3 w3 hR hg; have HR3 := Lib.hid hR; have HG3 := Lib.hid hg; have hb3 := blk_grown (blk_far HD2.out.blk (p := ⟨g, n.toNat, none⟩) (fun e => hne e.symm) (.string (bs t))) hg (fun e => HD2.out.bp (HD2.out.pend.1 bd e.symm)); have x2 := blk_cell hb3 2; have xf := blk_frozen hb3 2; clear hR hg hb3)))
          go_ret
          rw [HR.out]
          have hh := HD2.out
          have e := HE.out
          have hR3 := HR3.out
          have hd : DiskRows w2 bd Fs Ff Fp (.slice (some ⟨g, 0, none⟩) d.falls.seen.length c) (.slice A1 d.safe.length c1) (.slice A2 d.pend.length c2) d.falls := by rw [e.1]; exact hh
          obtain ⟨⟨Fp', hp, hpk⟩, ht⟩ := DiskRows.put_ (n := n) (t := t) (A3 := A3) (A3c := c3) (w3 := w3) hd (by rw [e.2.2]; exact (by simpa [World.setCell] using hR3)) HG3.out rfl
          rw [e.2.2] at hp ht
          refine ⟨rfl, fun k => F k ∨ w.heap.size ≤ k, ⟨_, _, _, _, _, _, hp, fun k hk => ?_⟩, ?_, fun _ hk => hk⟩
          · rcases hk with hk | hk | hk | hk
            · exact .inl (HF.out k (.inl hk))
            · exact .inl (HF.out k (.inr (.inl hk)))
            · exact .inl (HF.out k (.inr (.inr (.inl hk))))
            · rcases hpk k hk with h3 | h3
              · exact .inl (HF.out k (.inr (.inr (.inr h3))))
              · exact .inr (Nat.le_trans HT2.out.size h3)
          · exact (HT2.out.mono (fun k hk => HF.out k (.inl hk))).same (ht.mono HF.out)
      · have b3 : ((t.length : Int) != 512) = true := by rw [bne_iff_ne]; omega
        have HR : Hid (d.write n t = (d, 1)) := Lib.hid (by unfold Dk.write; rw [q, q2, show (t.length == 512) = false from beq_eq_false_iff_ne.2 q3]; rfl)
        clear h q q2 q3 hF
        go_enter Try.func84, Try.ntmps84
        go_wp2_with (go_at_call 78; with_reducible refine HI.out.mono ?_; rintro e w1 ⟨rfl, rfl⟩)
        go_ret
        rw [HR.out]
        exact ⟨rfl, F, HD.out, Step.refl _ _⟩
end Go.Proofs.Ythijhmidmhgfaaa

set_option linter.unusedVariables false
set_option linter.unusedSimpArgs false
namespace Go.Proofs.Ythijhmidmhgfaaa
open Go.RowKit Go.Proofs.YthijhmidmhgfaaaW.PrintWords Go.Proofs.YthijhmidmhgfaaaW.PrintLast
theorem plFlush : Plan (opsOf Try.f85 6) [9] [0, 1, 2, 4, 6, 3, 5, 7, 8, 9] [0, 0, 0, 1, 0, 1, 0, 1, 0, 3] := plan_mk (true, [([], []), ([0], [0]), ([1], [1]), ([2], [2]), ([], []), ([4], [4]), ([], []), ([6], [6]), ([3, 5, 0, 1, 2, 3, 4, 5, 6, 7], [3, 5]), ([8, 7, 0, 1, 2, 3, 4, 5, 6, 7], [7, 8])]) [0, 1, 3, 7, 0, 16, 0, 64, 255, 511] (by kernel_rfl) (by kernel_rfl) (by kernel_rfl)
theorem laidOn_len (l : List (List UInt8)) (p : List (Int × List UInt8)) : (laidOn l p).length = l.length := by
  unfold laidOn
  induction p generalizing l with
  | nil => rfl
  | cons x p ih => rw [List.foldl_cons, ih, List.length_set]
theorem laidOn_take (l : List (List UInt8)) (p : List (Int × List UInt8)) (k : Nat) (h : k < p.length) : laidOn l (p.take (k + 1)) = (laidOn l (p.take k)).set (p[k]'h).1.toNat (p[k]'h).2 := by
  unfold laidOn
  rw [List.take_succ_eq_append_getElem h, List.foldl_append]
  rfl
theorem rdOf_get {α : Type} (z : α) (l : List α) (k : Nat) (h : k < l.length) : rdOf z l (k : Int) = l[k] := by
  unfold rdOf
  rw [Int.toNat_natCast, List.getD_eq_getElem?_getD, List.getElem?_eq_getElem h]
  rfl
/-- the disk with k of the pending texts laid -/
def Dk.upto (d : Dk) (k : Nat) : Dk := { d with safe := laidOn d.safe (d.pend.take k) }
theorem DiskRows.safe_ {w : World} {bd g cap : Nat} {Fs Ff Fp : Nat → Prop} {vs vp : Value} {d : Dk} (h : DiskRows w bd Fs Ff Fp vs (.slice (some ⟨g, 0, none⟩) d.safe.length cap) vp d) (n : Int) (t : List UInt8) :
    DiskRows (w.setCell ⟨g, n.toNat, none⟩ (.string (bs t))) bd Fs Ff Fp vs (.slice (some ⟨g, 0, none⟩) d.safe.length cap) vp { d with safe := d.safe.set n.toNat t } := by
  have hgF : Ff g := h.safe.1 g (by simp [Value.ownBlock])
  have ht : Touch (fun k => k = g) w (w.setCell ⟨g, n.toNat, none⟩ (.string (bs t))) := (Touch.refl _ _).put _ _
  exact { blk := blk_far h.blk (fun e => h.bf (e ▸ hgF)) _, seen := Kd.R_touch h.seen ht (fun k hk e => h.sf k hk (e ▸ hgF)), safe := bs_put h.safe n t, pend := Kd.R_touch h.pend ht (fun k hk e => h.fp g hgF (e ▸ hk)), sf := h.sf, sp := h.sp, fp := h.fp, bs_ := h.bs_, bf := h.bf, bp := h.bp,
          lt := fun k hk => Nat.lt_of_lt_of_le (h.lt k hk) ht.size }
set_option maxRecDepth 100000 in
theorem dflush (w : World) (bd : Nat) (F : Nat → Prop) (d : Dk) (h : DiskIs w bd F d) (ho : d.Ok) (hne : 0 < d.seen.length) : Calls Try.prog 85 #[.pointer (some ⟨bd, 0, none⟩)] w (DStep w bd F d.flush.1 (.int .i64 d.flush.2)) := by
  have HD := Lib.hid h
  obtain ⟨Fs, Ff, Fp, vs, vf, vp, h, hF⟩ := h
  have HF := Lib.hid hF
  obtain ⟨A, c, A1, c1, A2, c2, rfl, rfl, rfl⟩ := h.form
  have c4 := blk_cell h.blk 4
  cases q : d.off with
  | true =>
    rw [q] at c4
    have HR : Hid (d.flush = (d, 9)) := Lib.hid (by unfold Dk.flush; rw [q]; rfl)
    clear h q hF ho
    go_enter Try.func85, Try.ntmps85
    go_wp2
    go_ret
    rw [HR.out]
    exact ⟨rfl, F, HD.out, Step.refl _ _⟩
  | false =>
    rw [q] at c4
    have HA := Lib.hid (dfalls w bd Fs Ff Fp _ _ _ d h ho)
    cases q4 : d.falls.off with
    | true =>
      have HR : Hid (d.flush = (d.falls, 9)) := Lib.hid (by unfold Dk.flush; rw [q, q4]; rfl)
      rw [q4] at HA
      clear h q hF ho
      go_enter Try.func85, Try.ntmps85
      go_wp2_with ((go_at_call 98; with_reducible refine HA.out.mono ?_; rintro e w2 ⟨rfl, hd2, ht2⟩; have HD2 := Lib.hid hd2; have HT2 := Lib.hid ht2; clear hd2 ht2))
      go_ret
      rw [HR.out]
      exact ⟨rfl, F, ⟨_, _, _, _, _, _, HD2.out, HF.out⟩, HT2.out.mono (fun k hk => HF.out k (.inl hk)), fun _ hk => .inl hk⟩
    | false =>
      have HR : Hid (d.flush = ({ d.falls with safe := laidOn d.safe d.pend, pend := [] }, 0)) := Lib.hid (by unfold Dk.flush; rw [q, q4]; rfl)
      rw [q4] at HA
      obtain ⟨e1, e2, e3⟩ := d.falls_fields
      have hpl := ho.pend
      have hsl := ho.safe
      have HAt := Lib.hid ho.at_
      have HO := Lib.hid (Dk.falls_ok ho)
      obtain ⟨g, cap, hv, hg0, hgl, cells, hgb⟩ := Kd.R_form h.safe (by omega)
      obtain ⟨rfl, _, rfl⟩ : A1 = some ⟨g, 0, none⟩ ∧ True ∧ c1 = cap := by
        injection hv with e1 e2 e3
        exact ⟨e1, trivial, e3⟩
      have hne2 : ¬ g = bd := fun e => h.bf (e ▸ h.safe.1 g (by simp [Value.ownBlock]))
      have HE := Lib.hid (And.intro e1 (And.intro e2 e3))
      clear h q hF e1 e2 e3 hv hgb hg0 ho
      go_enter Try.func85, Try.ntmps85
      go_wp2_with ((go_at_call 98; with_reducible refine HA.out.mono ?_; rintro e w2 ⟨rfl, hd2, ht2⟩; have HD2 := Lib.hid hd2; have HT2 := Lib.hid ht2; have a2 := blk_cell hd2.blk 2; clear hd2 ht2))
      go_loopw [18] (fun i wr => ∃ k : Nat, k ≤ d.pend.length ∧ i = .int .i64 k ∧ Hid (DiskRows wr bd Fs Ff Fp (.slice A d.seen.length c) (.slice (some ⟨g, 0, none⟩) d.safe.length c1) (.slice A2 d.pend.length c2) (d.falls.upto k)) ∧ Hid (Touch Ff w2 wr)) (fun i _ => d.pend.length - (intOf i).toNat)
      case atStart => exact ⟨0, Nat.zero_le _, rfl, HD2, Lib.hid (Touch.refl _ _)⟩
      case round =>
        obtain ⟨k, hk, rfl, HW, HT⟩ := hrel
        by_cases hlt : k < d.pend.length
        · have hp := HW.out.pend
          have hC := (Kd.R_reads' hp).2.2
          rw [show (d.falls.upto k).pend = d.pend from HE.out.2.2] at hC
          obtain ⟨ad, rfl, p0, p1⟩ := at_wr hC (k : Int) (by omega) (by omega)
          rw [rdOf_get zWr d.pend k hlt] at p0 p1
          rw [Int.toNat_natCast] at p0 p1
          have hm := HAt.out _ (List.getElem_mem hlt)
          have hst := laidOn_take d.safe d.pend k hlt
          have HS := Lib.hid hst
          clear hp hC hst
          generalize d.pend[k] = x at *
          obtain ⟨n, t⟩ := x
          dsimp only at p0 p1 hm
          obtain ⟨hm0, hm1⟩ := hm
          have a1 := blk_cell HW.out.blk 1
          have hs1 : kBs.R 9 wr 0 Ff (.slice (some ⟨g, 0, none⟩) d.safe.length c1) (laidOn d.safe (d.pend.take k)) := by
            have := HW.out.safe
            rwa [show (d.falls.upto k).safe = laidOn d.safe (d.pend.take k) by unfold Dk.upto; dsimp only; rw [HE.out.2.1, HE.out.2.2]] at this
          rw [show d.safe.length = (laidOn d.safe (d.pend.take k)).length from (laidOn_len _ _).symm] at hs1
          have s1 := (bs_cell hs1 n hm0 (by rw [laidOn_len]; omega)).1
          have s2 := (bs_cell hs1 n hm0 (by rw [laidOn_len]; omega)).2
          have hz : g < wr.heap.size := Nat.lt_of_lt_of_le hgl (Nat.le_trans HT2.out.size HT.out.size)
          have hz2 : bd < wr.heap.size := blk_lt HW.out.blk
          clear hs1
          go_wp2
          refine way_start (fun w' => w'.cell? ⟨bd, 1, none⟩ = some (.slice (some ⟨g, 0, none⟩) d.safe.length c1) ∧ w'.cell? ⟨wr.heap.size, 0, none⟩ = some (.int .i64 n) ∧ w'.cell? ⟨wr.heap.size, 1, none⟩ = some (.string (bs t)) ∧ w'.cell? ⟨g, n.toNat, none⟩ = some (.string (bs (rdOf [] (laidOn d.safe (d.pend.take k)) n))) ∧ w'.frozen? ⟨g, n.toNat, none⟩ = false) plFlush (by kernel_rfl) rfl (⟨by go_simp, by go_simp, by go_simp, by go_simp, by go_simp⟩) (fun hHeld => ?_)
          repeat (first
            | (refine way_pure (v := undef) (a' := ?_) plFlush rfl rfl rfl (fun _ _ _ h => h) (Or.inr ⟨by rfl, rfl⟩) ?_ ?_; rotate_left; (· (simp only [aw]; rfl)))
            | (refine way_pure (v := ?_) (a' := ?_) plFlush rfl rfl rfl (fun _ _ _ h => h) (Or.inl ⟨by rfl, ?_⟩) ?_ ?_; rotate_left; (· (intro w'; go_simp; with_reducible rfl)); rotate_left; (· (simp only [aw]; rfl)))
            | (refine way_take (v := ?_) (a' := ?_) plFlush rfl rfl rfl (fun _ _ _ h => h) (Or.inl ⟨by rfl, ?_⟩) hHeld ?_ ?_; rotate_left; (· (rintro w' ⟨s0, s1, s2, s3, s4⟩; go_simp; with_reducible rfl)); rotate_left; (· (simp only [aw]; rfl))))
          refine way_last plFlush rfl rfl rfl (fun K hK => ?_)
          refine skip_ (w1 := ?_) (by rfl) rfl ?_ ?_
          rotate_left
          · go_simp
            rfl
          refine hK.out _ _ ?_
          clear hK K
          refine way_done plFlush rfl (by decide) ?_
          go_wp2
          have hd1 := DiskRows.safe_ (w := wr) (g := g) (cap := c1) (d := d.falls.upto k) (by have := HW.out; rwa [show d.safe.length = (d.falls.upto k).safe.length by unfold Dk.upto; dsimp only; rw [laidOn_len, HE.out.2.1]] at this) n t
          rw [show ({ d.falls.upto k with safe := (d.falls.upto k).safe.set n.toNat t } : Dk) = d.falls.upto (k + 1) by unfold Dk.upto; dsimp only; rw [HE.out.2.1, HE.out.2.2, HS.out], show (d.falls.upto k).safe.length = d.safe.length by unfold Dk.upto; dsimp only; rw [laidOn_len, HE.out.2.1]] at hd1
          have ht1 : Touch Ff w2 (wr.setCell ⟨g, n.toNat, none⟩ (.string (bs t))) := HT.out.set _ _ (.inl (HW.out.safe.1 g (by simp [Value.ownBlock])))
          exact ⟨⟨k + 1, by omega, by go_num, Lib.hid (hd1.touch (Touch.of (F := fun _ => False) (below_drew (below_alloc (Below.refl _ _) _))) (fun _ _ hf => hf)), Lib.hid ((ht1.alloc _).drew)⟩, by simp [intOf]; omega⟩
        · obtain rfl : k = d.pend.length := by omega
          have a4 := blk_cell HW.out.blk 2
          have af := blk_frozen HW.out.blk 2
          go_wp2
          go_ret
          rw [HR.out]
          have hb := HW.out
          have tb : Touch (fun k => k = bd) wr (wr.setCell ⟨bd, 2, none⟩ (.slice none 0 0)) := (Touch.refl _ _).put _ _
          refine ⟨rfl, F, ⟨Fs, Ff, Fp, .slice A d.seen.length c, .slice (some ⟨g, 0, none⟩) d.safe.length c1, .slice none 0 0, ?_, HF.out⟩, ?_, fun _ hk => .inl hk⟩
          · refine { blk := ?_, seen := Kd.R_touch hb.seen tb (fun k hk e => hb.bs_ (e ▸ hk)), safe := ?_, pend := Kd.R_nil _ _ _ _ _, sf := hb.sf, sp := hb.sp, fp := hb.fp, bs_ := hb.bs_, bf := hb.bf, bp := hb.bp, lt := fun k hk => Nat.lt_of_lt_of_le (hb.lt k hk) tb.size }
            · exact blk_put hb.blk 2 _ rfl
            · have := Kd.R_touch hb.safe tb (fun k hk e => hb.bf (e ▸ hk))
              rwa [show (d.falls.upto d.pend.length).safe = laidOn d.safe d.pend by unfold Dk.upto; dsimp only; rw [HE.out.2.1, HE.out.2.2, List.take_length]] at this
          · have t1 : Touch F w w2 := HT2.out.mono (fun k hk => HF.out k (.inl hk))
            have t2 := t1.same (HT.out.mono (fun k hk => HF.out k (.inr (.inr (.inl hk)))))
            exact t2.set _ _ (.inl (HF.out bd (.inl rfl)))
end Go.Proofs.Ythijhmidmhgfaaa

namespace Go.Proofs
open Go.Shelf
def Try.lays105_ren : Go.Shelf.Ren := ⟨fun | 105 => 73 | 212 => 88 | 99 => 89 | 165 => 90 | 166 => 63 | 170 => 91 | 169 => 65 | 263 => 100 | 264 => 101 | 206 => 102 | 240 => 83 | 241 => 103 | 276 => 97 | 277 => 116 | n => n, fun | 9 => 9 | 3 => 3 | 4 => 4 | 20 => 20 | 0 => 0 | 46 => 102 | 109 => 136 | 5 => 5 | 72 => 116 | 76 => 119 | 51 => 122 | 146 => 149 | 53 => 134 | 148 => 151 | 70 => 114 | 37 => 40 | 75 => 118 | 127 => 132 | 164 => 144 | 80 => 97 | n => n, fun | n => n⟩
theorem Try.lays105 : Go.Proofs.Lays.n105 Try.prog Try.lays105_ren := {
  mixed := by kernel_rfl
  f99 := Try.func89.trans (congrArg some (by kernel_rfl))
  f105 := Try.func73.trans (congrArg some (by kernel_rfl))
  f165 := Try.func90.trans (congrArg some (by kernel_rfl))
  f166 := Try.func63.trans (congrArg some (by kernel_rfl))
  f169 := Try.func65.trans (congrArg some (by kernel_rfl))
  f170 := Try.func91.trans (congrArg some (by kernel_rfl))
  f206 := Try.func102.trans (congrArg some (by kernel_rfl))
  f212 := Try.func88.trans (congrArg some (by kernel_rfl))
  f240 := Try.func83.trans (congrArg some (by kernel_rfl))
  f241 := Try.func103.trans (congrArg some (by kernel_rfl))
  f263 := Try.func100.trans (congrArg some (by kernel_rfl))
  f264 := Try.func101.trans (congrArg some (by kernel_rfl))
  f276 := Try.func97.trans (congrArg some (by kernel_rfl))
  f277 := Try.func116.trans (congrArg some (by kernel_rfl))
  t0 := Try.underlying0
  a0 := Try.isAgg0
  z0 := Try.sizeOf0
  v0 := Try.zeroValue0
  t3 := Try.underlying3
  a3 := Try.isAgg3
  z3 := Try.sizeOf3
  v3 := Try.zeroValue3
  t4 := Try.underlying4
  a4 := Try.isAgg4
  z4 := Try.sizeOf4
  v4 := Try.zeroValue4
  t5 := Try.underlying5
  a5 := Try.isAgg5
  z5 := Try.sizeOf5
  v5 := Try.zeroValue5
  t9 := Try.underlying9
  a9 := Try.isAgg9
  z9 := Try.sizeOf9
  v9 := Try.zeroValue9
  t20 := Try.underlying20
  a20 := Try.isAgg20
  z20 := Try.sizeOf20
  v20 := Try.zeroValue20
  t37 := Try.underlying40
  a37 := Try.isAgg40
  z37 := Try.sizeOf40
  v37 := Try.zeroValue40
  t46 := Try.underlying102
  a46 := Try.isAgg102
  z46 := Try.sizeOf102
  v46 := Try.zeroValue102
  t51 := Try.underlying122
  a51 := Try.isAgg122
  z51 := Try.sizeOf122
  v51 := Try.zeroValue122
  t53 := Try.underlying134
  a53 := Try.isAgg134
  z53 := Try.sizeOf134
  v53 := Try.zeroValue134
  t70 := Try.underlying114
  a70 := Try.isAgg114
  z70 := Try.sizeOf114
  v70 := Try.zeroValue114
  t72 := Try.underlying116
  a72 := Try.isAgg116
  z72 := Try.sizeOf116
  v72 := Try.zeroValue116
  t75 := Try.underlying118
  a75 := Try.isAgg118
  z75 := Try.sizeOf118
  v75 := Try.zeroValue118
  t76 := Try.underlying119
  a76 := Try.isAgg119
  z76 := Try.sizeOf119
  v76 := Try.zeroValue119
  t109 := Try.underlying136
  a109 := Try.isAgg136
  z109 := Try.sizeOf136
  v109 := Try.zeroValue136
  t127 := Try.underlying132
  a127 := Try.isAgg132
  z127 := Try.sizeOf132
  v127 := Try.zeroValue132
  t146 := Try.underlying149
  a146 := Try.isAgg149
  z146 := Try.sizeOf149
  v146 := Try.zeroValue149
  t148 := Try.underlying151
  a148 := Try.isAgg151
  z148 := Try.sizeOf151
  v148 := Try.zeroValue151
  t164 := Try.underlying144
  a164 := Try.isAgg144
  z164 := Try.sizeOf144
  v164 := Try.zeroValue144 }
theorem Try.Builder_Extra_105 : Builder.Extra Try.prog Try.lays105_ren := {
  sizeBuilder := by kernel_rfl
  liesBuilder := by kernel_rfl
  t5 := Try.underlying5
  a5 := Try.isAgg5
  z5 := Try.sizeOf5
  v5 := Try.zeroValue5
  infoByte := by kernel_rfl
  cellsByte := by kernel_rfl
  sizeByte := by kernel_rfl
  neB5 := by decide }
open Go.RowKit Go.Lib in
/-- **strings.Repeat: count ≥ 0, the result within one allocation: count copies of s.** (LAID: no walk: one application.) -/
theorem Try.strings_Repeat (s : ByteArray) (c : Nat) (w : World) (hc : c ≤ 9223372036854775807) (hlen : s.size * c ≤ 140737488355328) :
    Calls Try.prog 73 #[.string s, .int .i64 c] w fun e w' => e = .returned (.string ⟨(Lib.repeatL s.data.toList c).toArray⟩) ∧ Below w.heap.size w w' := Any.strings_Repeat Try.lays105 Try.Builder_Extra_105 s c w hc hlen
def Try.laysNm216_ren : Go.Shelf.Ren := ⟨fun | 16 => 74 | n => n, fun | 24 => 59 | 9 => 9 | 4 => 4 | n => n, fun | n => n⟩
theorem Try.laysNm216 : Go.Proofs.Lays2.n16 Try.prog Try.laysNm216_ren := {
  mixed := by kernel_rfl
  f16 := Try.func74.trans (congrArg some (by kernel_rfl))
  t4 := Try.underlying4
  a4 := Try.isAgg4
  z4 := Try.sizeOf4
  v4 := Try.zeroValue4
  t9 := Try.underlying9
  a9 := Try.isAgg9
  z9 := Try.sizeOf9
  v9 := Try.zeroValue9
  t24 := Try.underlying59
  a24 := Try.isAgg59
  z24 := Try.sizeOf59
  v24 := Try.zeroValue59
  i9 := by kernel_rfl }
open Go.RowKit Go.Lib in
/-- slices.Clone at []string: "Clone returns a copy of the slice. The elements are copied using assignment, so this is a shallow clone. The result may have additional unused capacity. The result preserves the nilness of s.": OF A SLICE THAT IS NOT nil IT RETURNS A SLICE THAT IS NOT nil, OF THE SAME ELEMENTS, IN MEMORY OF THE CALL's OWN: in the how-to's words (6f): 'w'.ownsRow B e 1 v' n cells': v' begins at the head of a row among the blocks from B on (B: the heap's size at the call), not frozen, whose first cells are the elements · 'Below B w w'': below B all is as it was. The capacity is whatever the run-time gives. 'zs': what the cells behind the slice's address hold; 'zs.take n': its elements. (LAID: no walk: one application.) -/
theorem Try.slices_Clone_string (b off n c : Nat) (zs : List ByteArray) (w : World) (hz : n ≤ zs.length) (hbig : n * 16 ≤ 140737488355328) (hc : ∀ j, j < zs.length → w.cell? ⟨b, off + j, none⟩ = some (.string (zs.getD j ByteArray.empty))) :
    Calls Try.prog 74 #[.slice (some ⟨b, off, none⟩) n c] w fun e w' => ∃ v', e = .returned v' ∧ w'.ownsRow w.heap.size 9 1 v' n ((zs.take n).map (Value.string)) ∧ v' ≠ .slice none 0 0 ∧ Below w.heap.size w w' := Any.slices_Clone_string Try.laysNm216 b off n c zs w hz hbig hc
open Go.RowKit Go.Lib in
/-- The same at nil: nil comes back; the world is as it was. (LAID: no walk: one application.) -/
theorem Try.slices_Clone_string_nil (n c : Nat) (w : World) :
    Calls Try.prog 74 #[.slice none n c] w fun e w' => e = .returned (.slice none 0 0) ∧ w' = w := Any.slices_Clone_string_nil Try.laysNm216 n c w
open Go.RowKit Go.Lib in
/-- The same at a slice of length 0 that is not nil, WHATEVER ITS ADDRESS (no cell is asked for): a slice that is not nil and owns nothing comes back. (LAID: no walk: one application.) -/
theorem Try.slices_Clone_string_zero (a : Addr) (c : Nat) (w : World) :
    Calls Try.prog 74 #[.slice (some a) 0 c] w fun e w' => ∃ v', e = .returned v' ∧ w'.ownsRow w.heap.size 9 1 v' 0 [] ∧ v' ≠ .slice none 0 0 ∧ Below w.heap.size w w' := Any.slices_Clone_string_zero Try.laysNm216 a c w
end Go.Proofs

set_option linter.unusedVariables false
set_option linter.unusedSimpArgs false
namespace Go.Proofs.Ythijhmidmhgfaaa
open Go.RowKit Go.Proofs.YthijhmidmhgfaaaW.PrintWords Go.Proofs.YthijhmidmhgfaaaW.PrintLast
theorem repeatL_one (x : UInt8) : ∀ c : Nat, Lib.repeatL [x] c = List.replicate c x
  | 0 => rfl
  | c + 1 => by
    rw [List.replicate_succ, ← repeatL_one x c]
    rfl
/-- a sector of zeros -/
def zeroS : List UInt8 := List.replicate 512 0
theorem zeroS_len : zeroS.length = 512 := List.length_replicate ..
theorem repeat512 (w : World) : Calls Try.prog 73 #[.string ⟨#[0]⟩, .int .i64 512] w fun e w' => e = .returned (.string (bs zeroS)) ∧ Below w.heap.size w w' := by
  have h := Try.strings_Repeat ⟨#[0]⟩ 512 w (by decide) (by decide)
  refine h.mono ?_
  rintro e w' ⟨rfl, hb⟩
  refine ⟨?_, hb⟩
  rw [show (⟨#[0]⟩ : ByteArray).data.toList = [0] from rfl, repeatL_one]
  rfl
theorem repeat_any (w : World) (c : Int) (h0 : 0 ≤ c) (h1 : c ≤ 512) : Calls Try.prog 73 #[.string ⟨#[0]⟩, .int .i64 c] w fun e w' => e = .returned (.string (bs (List.replicate c.toNat 0))) ∧ Below w.heap.size w w' := by
  obtain ⟨n, rfl⟩ := Int.eq_ofNat_of_zero_le h0
  have h := Try.strings_Repeat ⟨#[0]⟩ n w (by omega) (by show 1 * n ≤ _; omega)
  refine h.mono ?_
  rintro e w' ⟨rfl, hb⟩
  refine ⟨?_, hb⟩
  rw [show (⟨#[0]⟩ : ByteArray).data.toList = [0] from rfl, repeatL_one]
  rfl
/-- a copy of a row of texts -/
theorem clone_bs (w : World) (A : Option Addr) (c : Nat) (l : List (List UInt8)) {ok : Nat → Prop} (h : kBs.R 9 w 0 ok (.slice A l.length c) l) (hb : l.length ≤ 8192) : Calls Try.prog 74 #[.slice A l.length c] w fun e w' => ∃ A' c', e = .returned (.slice A' l.length c') ∧ kBs.R 9 w' w.heap.size (fun k => w.heap.size ≤ k ∧ k < w'.heap.size) (.slice A' l.length c') l ∧ Below w.heap.size w w' := by
  have fin : ∀ (e : Ending) (w' : World), (∃ v', e = .returned v' ∧ w'.ownsRow w.heap.size 9 1 v' l.length ((l.map bs).map Value.string) ∧ Below w.heap.size w w') → ∃ A' c', e = .returned (.slice A' l.length c') ∧ kBs.R 9 w' w.heap.size (fun k => w.heap.size ≤ k ∧ k < w'.heap.size) (.slice A' l.length c') l ∧ Below w.heap.size w w' := by
    rintro e w' ⟨v', rfl, ho, hb⟩
    have hR : kBs.R 9 w' w.heap.size (fun k => w.heap.size ≤ k ∧ k < w'.heap.size) v' l :=
      Kd.R_of_own (enc := fun l : List UInt8 => Value.string (bs l)) (h1 := fun _ => rfl) (by simpa [encs, Function.comp_def] using ho) (fun k hk => ⟨own_base ho k hk, own_lt ho k hk⟩)
    obtain ⟨A', c', rfl⟩ := Kd.R_slice hR
    exact ⟨A', c', rfl, hR, hb⟩
  rcases Nat.eq_zero_or_pos l.length with h0 | h0
  · obtain rfl := List.eq_nil_of_length_eq_zero h0
    cases A with
    | none =>
      refine (Try.slices_Clone_string_nil 0 c w).mono ?_
      rintro e w' ⟨rfl, rfl⟩
      exact ⟨none, 0, rfl, Kd.R_nil _ _ _ _ _, Below.refl _ _⟩
    | some a =>
      refine (Try.slices_Clone_string_zero a c w).mono ?_
      rintro e w' ⟨v', rfl, ho, _, hb⟩
      exact fin _ _ ⟨v', rfl, ho, hb⟩
  · obtain ⟨g, cap, hv, _⟩ := Kd.R_form h h0
    obtain ⟨rfl, _, rfl⟩ : A = some ⟨g, 0, none⟩ ∧ True ∧ c = cap := by
      injection hv with e1 e2 e3
      exact ⟨e1, trivial, e3⟩
    refine (Try.slices_Clone_string g 0 l.length c (l.map bs) w (by simp) (by omega) (fun j hj => ?_)).mono ?_
    · rw [List.length_map] at hj
      have := (bs_cell h (j : Int) (by omega) (by omega)).1
      rw [rdOf_get [] l j hj, Int.toNat_natCast] at this
      rw [Nat.zero_add, this, List.getD_eq_getElem?_getD, List.getElem?_map, List.getElem?_eq_getElem hj]
      rfl
    · rintro e w' ⟨v', rfl, ho, _, hb⟩
      exact fin _ _ ⟨v', rfl, by rwa [List.take_of_length_le (by simp)] at ho, hb⟩
def zerosD (n : Nat) : Dk := ⟨List.replicate n zeroS, List.replicate n zeroS, [], 0, false, false⟩
structure NewRel (w1 : World) (n k : Nat) (A : Option Addr) (c : Nat) (wr : World) : Prop where
  blk : wr.heap[w1.heap.size]? = some (.cells #[.slice A k c, .slice none 0 0, .slice none 0 0, .int .i64 0, .bool false, .bool false] 113 (0, 0))
  row : kBs.R 9 wr 0 (fun j => w1.heap.size < j) (.slice A k c) (List.replicate k zeroS)
  below : Below w1.heap.size w1 wr
theorem NewRel.next {w1 wr w3 : World} {n k : Nat} {A A3 : Option Addr} {c c3 : Nat} (h : NewRel w1 n k A c wr) (hR : kBs.R 9 w3 0 (fun j => w1.heap.size < j ∨ wr.heap.size ≤ j) (.slice A3 (k + 1) c3) (List.replicate k zeroS ++ [zeroS]))
    (hg : wr.grownBy w3 (Value.slice A k c).ownBlock) : NewRel w1 n (k + 1) A3 c3 (w3.setCell ⟨w1.heap.size, 0, none⟩ (.slice A3 (k + 1) c3)) := by
  have hne : some w1.heap.size ≠ (Value.slice A k c).ownBlock := fun e => by have := h.row.1 _ e.symm; omega
  have hb3 := blk_grown h.blk hg hne
  have hl := blk_lt h.blk
  refine ⟨blk_put hb3 0 _ rfl, ?_, ?_⟩
  · rw [List.replicate_succ']
    exact Kd.R_far (Kd.R_mono hR (fun j hj => by rcases hj with hj | hj <;> omega)) (p := ⟨w1.heap.size, 0, none⟩) (fun j hj (e : j = w1.heap.size) => by omega) _
  · exact (h.below.grown hg h.below.size (fun j hj => by have := h.row.1 j hj; omega)).setCell (Nat.le_refl _) _
set_option maxRecDepth 100000 in
theorem dnew (w : World) (n : Nat) (h1 : 1 ≤ n) (h2 : n ≤ 8192) : Calls Try.prog 51 #[.int .i64 (n : Int)] w fun e w' => ∃ bd F, e = .returned (.tuple #[.pointer (some ⟨bd, 0, none⟩), .int .i64 0]) ∧ DiskIs w' bd F (zerosD n) ∧ (∀ k, F k → w.heap.size ≤ k) ∧ Below w.heap.size w w' := by
  have b1 : decide ((n : Int) < 1) = false := decide_eq_false (by omega)
  have b2 : decide (8192 < (n : Int)) = false := decide_eq_false (by omega)
  have b3 : (n : Int) ≤ 8192 := by omega
  go_enter Try.func51, Try.ntmps51
  go_wp2_with (go_at_call 73; with_reducible refine (repeat512 _).mono ?_; rintro e w1 ⟨rfl, hb1⟩; have HB1 := Lib.hid hb1; clear hb1)
  generalize hwx : World.alloc w1 _ = wx
  have h0 : NewRel w1 n 0 none 0 wx := by
    rw [← hwx]
    exact ⟨blk_new w1 _, Kd.R_nil _ _ _ _ _, below_alloc (Below.refl _ _) _⟩
  have H0 := Lib.hid h0
  clear h0 hwx
  go_loopw [16] (fun i wr => ∃ (k : Nat) (A : Option Addr) (c : Nat), k ≤ n ∧ i = .int .i64 k ∧ Hid (NewRel w1 n k A c wr)) (fun i _ => n - (intOf i).toNat)
  case atStart => exact ⟨0, none, 0, Nat.zero_le _, rfl, H0⟩
  case round =>
    clear H0
    obtain ⟨k, A, c, hk, rfl, HN⟩ := hrel
    have a0 := blk_cell HN.out.blk 0
    by_cases hlt : k < n
    · go_wp2_with (at_builtin; refine append_one kBs (W := wr) rfl (.tmp 22) (.tmp 24) 59 9 _ 16 rfl Try.underlying59 bs_info rfl (by decide) (by decide) (.slice A k c) (List.replicate k zeroS) zeroS [.string (bs zeroS)] (fun j => w1.heap.size < j) rfl (by simp [Act.eval, go_sem]) rfl HN.out.row (by rw [List.length_replicate]; omega) ?_; rw [List.length_replicate]; intro A3 c3 w3 hR hg; have HN3 := Lib.hid (HN.out.next hR hg); have hb3 := blk_grown HN.out.blk hg (fun e => by have := HN.out.row.1 _ e.symm; omega); have x0 := blk_cell hb3 0; have xf := blk_frozen hb3 0; clear hR hg hb3)
      exact ⟨⟨k + 1, A3, c3, by omega, by go_num, HN3⟩, by simp [intOf]; omega⟩
    · obtain rfl : k = n := by omega
      have HC := Lib.hid (clone_bs wr A c (List.replicate k zeroS) (by rw [List.length_replicate]; exact HN.out.row) (by rw [List.length_replicate]; omega))
      rw [List.length_replicate] at HC
      go_wp2_with (go_at_call 74; with_reducible refine HC.out.mono ?_; rintro e w4 ⟨A4, c4, rfl, hR4, hb4⟩; have HR4 := Lib.hid hR4; have HB4 := Lib.hid hb4; have hb := blk_below HN.out.blk hb4; have y0 := blk_cell hb 1; have yf := blk_frozen hb 1; clear hR4 hb4 hb)
      go_ret2
      have hbl := HN.out
      have hb4 := HB4.out
      have hlb := blk_lt hbl.blk
      have hb1 := HB1.out.size
      have tb : Touch (fun j => j = w1.heap.size) w4 (w4.setCell ⟨w1.heap.size, 1, none⟩ (.slice A4 k c4)) := (Touch.refl _ _).put _ _
      have hsz := hb4.size
      refine ⟨w1.heap.size, fun j => w.heap.size ≤ j, rfl, ⟨fun j => w1.heap.size < j ∧ j < wr.heap.size, fun j => wr.heap.size ≤ j ∧ j < w4.heap.size, fun _ => False, .slice A k c, .slice A4 k c4, .slice none 0 0, ?_, ?_⟩, fun _ hj => hj, ?_⟩
      · refine { blk := blk_put (blk_below hbl.blk hb4) 1 _ rfl, seen := ?_, safe := ?_, pend := Kd.R_nil _ _ _ _ _, sf := fun j hj hj2 => by omega, sp := fun _ _ h => h, fp := fun _ _ h => h, bs_ := fun h => by omega, bf := fun h => by omega, bp := fun h => h, lt := ?_ }
        · have := Kd.R_mono (Kd.R_bound hbl.row) (ok' := fun j => w1.heap.size < j ∧ j < wr.heap.size) (fun j hj => ⟨hj.1, hj.2.2.1⟩)
          exact Kd.R_touch (Kd.R_below this hb4) tb (fun j hj e => by omega)
        · exact Kd.R_touch (Kd.R_lower HR4.out (Nat.zero_le _)) tb (fun j hj e => by omega)
        · intro j hj
          have := tb.size
          rcases hj with hj | hj | hj
          · omega
          · omega
          · exact hj.elim
      · intro j hj
        rcases hj with rfl | hj | hj | hj
        · exact hb1
        · show w.heap.size ≤ j
          omega
        · show w.heap.size ≤ j
          omega
        · exact hj.elim
      · have h1 : Below w.heap.size w wr := below_then HB1.out hb1 hbl.below
        have h2 := below_then h1 (by omega) hb4
        exact h2.setCell (by show w.heap.size ≤ w1.heap.size; omega) _
end Go.Proofs.Ythijhmidmhgfaaa

set_option linter.unusedVariables false
set_option linter.unusedSimpArgs false
namespace Go.Proofs.Ythijhmidmhgfaaa
open Go.RowKit Go.Proofs.YthijhmidmhgfaaaW.PrintWords Go.Proofs.YthijhmidmhgfaaaW.PrintLast
def fourV (x : Int) : List UInt8 := [b8 (x / 16777216), b8 (x / 65536 % 256), b8 (x / 256 % 256), b8 (x % 256)]
theorem conv4 (W : World) (a b c d : Int) : (convert 40 9 (.slice (some ⟨W.heap.size, 0, none⟩) 4 4)).run Try.prog (W.alloc (.cells #[.int .u8 a, .int .u8 b, .int .u8 c, .int .u8 d] 5)) = .ok (.string (bs [b8 a, b8 b, b8 c, b8 d])) (W.alloc (.cells #[.int .u8 a, .int .u8 b, .int .u8 c, .int .u8 d] 5)) :=
  run_convert_bytes_arg (P := Try.prog) _ 40 5 Try.underlying40 Try.underlying5 W.heap.size 0 4 4 [a, b, c, d] rfl (fun i hi => by
    rw [blk_cell (blk_new W _)]
    rcases (by omega : i = 0 ∨ i = 1 ∨ i = 2 ∨ i = 3) with rfl | rfl | rfl | rfl <;> rfl) 9 Try.underlying9
set_option maxRecDepth 100000 in
theorem four_any (w : World) (x : Int) (h0 : 0 ≤ x) (h1 : x < 4294967296) : Calls Try.prog 64 #[.int .u32 x] w fun e w' => e = .returned (.string (bs (fourV x))) ∧ Below w.heap.size w w' := by
  have h4 := conv4 w (x / 16777216) (x / 65536 % 256) (x / 256 % 256) (x % 256)
  go_enter Try.func64, Try.ntmps64
  go_wp2
  go_ret
  exact ⟨rfl, below_alloc (Below.refl _ _) _⟩
def eightV (x : Int) : List UInt8 := fourV (x / 4294967296) ++ fourV (x % 4294967296)
theorem eightV_len (x : Int) : (eightV x).length = 8 := rfl
theorem eight_any (w : World) (x : Int) (h0 : 0 ≤ x) (h1 : x < 18446744073709551616) : Calls Try.prog 86 #[.int .u64 x] w fun e w' => e = .returned (.string (bs (eightV x))) ∧ Below w.heap.size w w' := by
  have HA := fun w' => Lib.hid (four_any w' (x / 4294967296) (by omega) (by omega))
  have HB := fun w' => Lib.hid (four_any w' (x % 4294967296) (by omega) (by omega))
  have z1 : (bs (fourV (x / 4294967296))).size = 4 := by rw [bs_size]; rfl
  have z2 : (bs (fourV (x % 4294967296))).size = 4 := by rw [bs_size]; rfl
  go_enter Try.func86, Try.ntmps86
  go_wp2_with fail
  with_reducible refine (HA _).out.mono ?_
  rintro e w1 ⟨rfl, hb1⟩
  go_wp2_with fail
  with_reducible refine (HB _).out.mono ?_
  rintro e w2 ⟨rfl, hb2⟩
  go_wp2
  go_ret
  exact ⟨by show Ending.returned (.string (bs _ ++ bs _)) = _; rw [bs_append]; rfl, below_then hb1 hb1.size hb2⟩
/-- filled up to a sector -/
def filledV (l : List UInt8) : List UInt8 := l ++ List.replicate (512 - l.length) 0
theorem filledV_len (l : List UInt8) (h : l.length ≤ 512) : (filledV l).length = 512 := by
  unfold filledV
  rw [List.length_append, List.length_replicate]
  omega
theorem filledV_nil : filledV [] = zeroS := rfl
theorem filled_any (w : World) (l : List UInt8) (h : l.length ≤ 512) : Calls Try.prog 66 #[.string (bs l)] w fun e w' => e = .returned (.string (bs (filledV l))) ∧ Below w.heap.size w w' := by
  have HR := Lib.hid (repeat_any w (512 - (l.length : Int)) (by omega) (by omega))
  rw [show (512 - (l.length : Int)).toNat = 512 - l.length by omega] at HR
  have z1 : (bs l).size = l.length := bs_size l
  have z2 : (bs (List.replicate (512 - l.length) 0)).size = 512 - l.length := by rw [bs_size, List.length_replicate]
  generalize hq : bs (List.replicate (512 - l.length) 0) = q at *
  have HQ := Lib.hid hq
  clear hq
  go_enter Try.func66, Try.ntmps66
  go_wp2_with (go_at_call 73; with_reducible refine HR.out.mono ?_; rintro e w1 ⟨rfl, hb⟩)
  go_ret
  refine ⟨?_, hb⟩
  rw [← HQ.out] at *
  show Ending.returned (.string (bs l ++ bs _)) = _
  rw [bs_append]
  rfl
/-- a sector that notes a number under a mark -/
def notedV (m : List UInt8) (n : Int) : List UInt8 := filledV (m ++ eightV n ++ eightV (crcV (m ++ eightV n)))
theorem notedV_len (m : List UInt8) (n : Int) (h : m.length ≤ 496) : (notedV m n).length = 512 := filledV_len _ (by simp [eightV_len]; omega)
theorem noted_any (w : World) (m : List UInt8) (n : Int) (hm : m.length ≤ 496) (h0 : 0 ≤ n) (h1 : n ≤ 9223372036854775807) : Calls Try.prog 68 #[.string (bs m), .int .i64 n] w fun e w' => e = .returned (.string (bs (notedV m n))) ∧ Below w.heap.size w w' := by
  have HE := fun w' => Lib.hid (eight_any w' n h0 (by omega))
  have z1 : (bs m).size = m.length := bs_size m
  have z2 : (bs (eightV n)).size = 8 := by rw [bs_size]; rfl
  have HS := fun w' => Lib.hid (sumOf_any w' (m ++ eightV n) (by rw [List.length_append, eightV_len]; omega))
  have hc := crcV_range (m ++ eightV n)
  have HE2 := fun w' => Lib.hid (eight_any w' (crcV (m ++ eightV n)) hc.1 hc.2)
  have HF := fun w' => Lib.hid (filled_any w' (m ++ eightV n ++ eightV (crcV (m ++ eightV n))) (by simp [eightV_len]; omega))
  have z3 : (bs (eightV (crcV (m ++ eightV n)))).size = 8 := by rw [bs_size]; rfl
  have z4 : (bs (m ++ eightV n)).size = m.length + 8 := by rw [bs_size, List.length_append, eightV_len]
  have e1 : bs m ++ bs (eightV n) = bs (m ++ eightV n) := bs_append _ _
  have e2 : bs (m ++ eightV n) ++ bs (eightV (crcV (m ++ eightV n))) = bs (m ++ eightV n ++ eightV (crcV (m ++ eightV n))) := bs_append _ _
  have HR : Hid (filledV (m ++ eightV n ++ eightV (crcV (m ++ eightV n))) = notedV m n) := Lib.hid rfl
  generalize m ++ eightV n = s at *
  generalize crcV s = c at *
  generalize s ++ eightV c = s2 at *
  obtain ⟨hc0, hc1⟩ := hc
  go_enter Try.func68, Try.ntmps68
  go_wp2_with fail
  with_reducible refine (HE _).out.mono ?_
  rintro e w1 ⟨rfl, hb1⟩
  go_wp2_with fail
  with_reducible refine (HS _).out.mono ?_
  rintro e w2 ⟨rfl, hb2⟩
  go_wp2_with fail
  with_reducible refine (HE2 _).out.mono ?_
  rintro e w3 ⟨rfl, hb3⟩
  go_wp2_with fail
  with_reducible refine (HF _).out.mono ?_
  rintro e w4 ⟨rfl, hb4⟩
  go_wp2
  go_ret
  refine ⟨?_, below_then (below_then (below_then hb1 hb1.size hb2) (Nat.le_trans hb1.size hb2.size) hb3) (Nat.le_trans hb1.size (Nat.le_trans hb2.size hb3.size)) hb4⟩
  rw [← HR.out]
  rfl
end Go.Proofs.Ythijhmidmhgfaaa

set_option linter.unusedVariables false
set_option linter.unusedSimpArgs false
namespace Go.Proofs.Ythijhmidmhgfaaa
open Go.RowKit Go.Proofs.YthijhmidmhgfaaaW.PrintWords Go.Proofs.YthijhmidmhgfaaaW.PrintLast
def numStep (v : Int) (c : UInt8) : Int := v * 256 % 18446744073709551616 + (c.toNat : Int)
def numV (l : List UInt8) : Int := l.foldl numStep 0
theorem numStep_range (v : Int) (c : UInt8) : 0 ≤ numStep v c ∧ numStep v c < 18446744073709551616 := by
  have := c.toNat_lt
  unfold numStep
  omega
theorem numV_range (l : List UInt8) : 0 ≤ numV l ∧ numV l < 18446744073709551616 := by
  unfold numV
  have h : ∀ (l : List UInt8) (v : Int), 0 ≤ v ∧ v < 18446744073709551616 → 0 ≤ l.foldl numStep v ∧ l.foldl numStep v < 18446744073709551616 := by
    intro l
    induction l with
    | nil => exact fun v hv => hv
    | cons c l ih => exact fun v hv => ih _ (numStep_range v c)
  exact h l 0 (by decide)
theorem numV_take (l : List UInt8) (k : Nat) (h : k < l.length) : numV (l.take (k + 1)) = numStep (numV (l.take k)) (l[k]'h) := by
  unfold numV
  rw [List.take_succ_eq_append_getElem h, List.foldl_append]
  rfl
theorem or8 (a c : Int) (h0 : 0 ≤ a) (h1 : a % 256 = 0) (h2 : a < 18446744073709551616) (c0 : 0 ≤ c) (c1 : c < 256) : bits .or .u64 a c = a + c :=
  bits_join .u64 64 (by decide) (fun n h0 h1 => by have e : IntKind.u64.wrap n = n % 18446744073709551616 := by simp [IntKind.wrap, IntKind.bits, IntKind.signed]
                                                   rw [e]; omega) 8 a c h0 h1 h2 c0 c1 (by omega)
theorem u64w (n : Int) : IntKind.u64.wrap n = n % 18446744073709551616 := by simp [IntKind.wrap, IntKind.bits, IntKind.signed]
theorem numStep_or (x : Int) (c : UInt8) : bits .or .u64 (IntKind.u64.wrap (x * 256)) (c.toNat : Int) = numStep x c := by
  have := c.toNat_lt
  rw [u64w, or8 _ _ (by omega) (by omega) (by omega) (by omega) (by omega)]
  rfl
theorem number_any (w : World) (l : List UInt8) (hl : l.length ≤ 512) : Calls Try.prog 92 #[.string (bs l)] w fun e w' => e = .returned (.int .u64 (numV l)) ∧ w = w' := by
  have hs : (bs l).size = l.length := bs_size l
  go_enter Try.func92, Try.ntmps92
  go_wp2
  go_loop [3, 7] (fun v i => ∃ k : Nat, k ≤ l.length ∧ i = .int .i64 k ∧ v = .int .u64 (numV (l.take k))) (fun _ i => l.length - (intOf i).toNat)
  case atStart => exact ⟨0, Nat.zero_le _, rfl, rfl⟩
  case round =>
    obtain ⟨k, hk, rfl, rfl⟩ := hrel
    by_cases hlt : k < l.length
    · have HN := Lib.hid (numV_take l k hlt)
      obtain ⟨r0, r1⟩ := numV_range (l.take k)
      have hg : (bs l)[k]'(by rw [bs_size]; exact hlt) = l[k] := rfl
      generalize numV (l.take k) = x at *
      generalize l[k] = c at *
      have HS := Lib.hid (numStep_or x c)
      have hc : (c.toNat : Int) < 256 := by have := c.toNat_lt; omega
      have hc0 : 0 ≤ (c.toNat : Int) := by omega
      go_wp2
      exact ⟨⟨k + 1, by omega, by go_num, by rw [HN.out, HS.out]⟩, by simp [intOf]; omega⟩
    · obtain rfl : k = l.length := by omega
      rw [List.take_length]
      go_wp2
      go_ret
      exact ⟨rfl, rfl⟩
def noteV (m b : List UInt8) : Int × Bool :=
  let n := wrap64 (numV ((b.drop m.length).take 8))
  (n, decide (0 ≤ n) && (b == notedV m n))
theorem w64_range (n : Int) : -9223372036854775808 ≤ wrap64 n ∧ wrap64 n ≤ 9223372036854775807 := by unfold wrap64; omega
theorem note_any (w : World) (m b : List UInt8) (hm : m.length ≤ 496) (hb : b.length = 512) : Calls Try.prog 75 #[.string (bs m), .string (bs b)] w fun e w' => e = .returned (.tuple #[.int .i64 (noteV m b).1, .bool (noteV m b).2]) ∧ Below w.heap.size w w' := by
  have z1 : (bs m).size = m.length := bs_size m
  have z2 : (bs b).size = 512 := by rw [bs_size, hb]
  have hx : (bs b).extract m.length (m.length + 8) = bs ((b.drop m.length).take 8) := by rw [bs_extract]; congr 2; omega
  have HN := fun w' => Lib.hid (number_any w' ((b.drop m.length).take 8) (by rw [List.length_take]; omega))
  obtain ⟨r0, r1⟩ := numV_range ((b.drop m.length).take 8)
  obtain ⟨g0, g1⟩ := w64_range (numV ((b.drop m.length).take 8))
  obtain ⟨n, hn⟩ : ∃ n, wrap64 (numV ((b.drop m.length).take 8)) = n := ⟨_, rfl⟩
  have HV : Hid (noteV m b = (n, decide (0 ≤ n) && (b == notedV m n))) := Lib.hid (by unfold noteV; dsimp only; rw [hn])
  rw [hn] at g0 g1
  have HNN := Lib.hid hn
  generalize bs ((b.drop m.length).take 8) = q at *
  generalize numV ((b.drop m.length).take 8) = v at *
  by_cases c : 0 ≤ n
  · have HT := fun w' => Lib.hid (noted_any w' m n hm c g1)
    have b1 : decide (0 ≤ n) = true := decide_eq_true c
    have HE : Hid (((bs b).toList == (bs (notedV m n)).toList) = (b == notedV m n)) := Lib.hid (by rw [bs_toList, bs_toList])
    generalize bs (notedV m n) = t at *
    go_enter Try.func75, Try.ntmps75
    go_wp2_with (first
      | (go_at_call 92; with_reducible refine (HN _).out.mono ?_; rintro e w1 ⟨rfl, rfl⟩)
      | (go_at_call 68; with_reducible refine (HT _).out.mono ?_; rintro e w2 ⟨rfl, hb2⟩))
    go_ret2
    refine ⟨?_, hb2⟩
    rw [HV.out, b1, ← HE.out]
    rfl
  · have b1 : decide (0 ≤ n) = false := decide_eq_false c
    go_enter Try.func75, Try.ntmps75
    go_wp2_with ((go_at_call 92; with_reducible refine (HN _).out.mono ?_; rintro e w1 ⟨rfl, rfl⟩))
    go_ret2
    refine ⟨?_, Below.refl _ _⟩
    rw [HV.out, b1]
    have e := HNN.out
    subst e
    rfl
end Go.Proofs.Ythijhmidmhgfaaa

set_option linter.unusedVariables false
set_option linter.unusedSimpArgs false
namespace Go.Proofs.Ythijhmidmhgfaaa
open Go.RowKit Go.Proofs.YthijhmidmhgfaaaW.PrintWords Go.Proofs.YthijhmidmhgfaaaW.PrintLast
/-- a log, and the disk that it lies on -/
structure LogIs (w : World) (bl bd : Nat) (F : Nat → Prop) (size : Int) (dead : Bool) (d : Dk) : Prop where
  blk : w.heap[bl]? = some (.cells #[.pointer (some ⟨bd, 0, none⟩), .int .i64 size, .bool dead] 81 (0, 0))
  disk : ∃ G : Nat → Prop, DiskIs w bd G d ∧ (∀ k, G k → F k) ∧ ¬ G bl
  in_ : F bl
theorem LogIs.touch {w w1 : World} {bl bd : Nat} {F G : Nat → Prop} {size : Int} {dead : Bool} {d : Dk} (h : LogIs w bl bd F size dead d) (ht : Touch G w w1) (hd : ∀ k, F k → ¬ G k) : LogIs w1 bl bd F size dead d := by
  obtain ⟨H, h1, h2, h3⟩ := h.disk
  exact ⟨ht.blk h.blk (hd _ h.in_), ⟨H, h1.touch ht (fun k hk => hd k (h2 k hk)), h2, h3⟩, h.in_⟩
theorem LogIs.below {w w1 : World} {bl bd : Nat} {F : Nat → Prop} {size : Int} {dead : Bool} {d : Dk} (h : LogIs w bl bd F size dead d) (hb : Below w.heap.size w w1) : LogIs w1 bl bd F size dead d := h.touch (Touch.of (F := fun _ => False) hb) (fun _ _ hf => hf)
def LStep (w : World) (bl bd : Nat) (F : Nat → Prop) (size : Int) (dead : Bool) (d : Dk) (r : Value) (e : Ending) (w' : World) : Prop := e = .returned r ∧ ∃ F', LogIs w' bl bd F' size dead d ∧ Step F F' w w'
theorem LogIs.step_disk {w w1 : World} {bl bd : Nat} {F H G : Nat → Prop} {size : Int} {dead : Bool} {d d1 : Dk} (h : LogIs w bl bd F size dead d) (h2 : ∀ k, H k → F k) (h3 : ¬ H bl) (hd : DiskIs w1 bd G d1) (hs : Step H G w w1) : ∃ F', LogIs w1 bl bd F' size dead d1 ∧ Step F F' w w1 := by
  refine ⟨fun k => F k ∨ w.heap.size ≤ k, ⟨hs.touch.blk h.blk h3, ⟨G, hd, fun k hk => ?_, fun hk => ?_⟩, .inl h.in_⟩, hs.touch.mono h2, fun _ hk => hk⟩
  · rcases hs.new k hk with h4 | h4
    · exact .inl (h2 k h4)
    · exact .inr h4
  · rcases hs.new bl hk with h4 | h4
    · exact h3 h4
    · have := blk_lt h.blk
      omega
theorem met_any (w : World) (bl bd : Nat) (F : Nat → Prop) (size : Int) (dead : Bool) (d : Dk) (e0 : Int) (h : LogIs w bl bd F size dead d) : Calls Try.prog 58 #[.pointer (some ⟨bl, 0, none⟩), .int .i64 e0] w (LStep w bl bd F size (dead || (e0 == 9)) d (.int .i64 e0)) := by
  have HL := Lib.hid h
  have c2 := blk_cell h.blk 2
  have f2 := blk_frozen h.blk 2
  clear h
  have fin : ∀ b, LStep w bl bd F size b d (.int .i64 e0) (.returned (.int .i64 e0)) (w.setCell ⟨bl, 2, none⟩ (.bool b)) := by
    intro b
    obtain ⟨H, h1, h2, h3⟩ := HL.out.disk
    have t : Touch (fun k => k = bl) w (w.setCell ⟨bl, 2, none⟩ (.bool b)) := (Touch.refl _ _).put _ _
    exact ⟨rfl, F, ⟨blk_put HL.out.blk 2 _ rfl, ⟨H, h1.touch t (fun k hk e => h3 (e ▸ hk)), h2, h3⟩, HL.out.in_⟩, t.mono (fun k hk => hk ▸ HL.out.in_), fun _ hk => .inl hk⟩
  have HF := Lib.hid fin
  clear fin
  cases dead with
  | true =>
    go_enter Try.func58, Try.ntmps58
    go_wp2
    go_ret
    exact HF.out true
  | false =>
    cases q : (e0 == 9) with
    | true =>
      go_enter Try.func58, Try.ntmps58
      go_wp2
      go_ret
      exact HF.out true
    | false =>
      go_enter Try.func58, Try.ntmps58
      go_wp2
      go_ret
      exact HF.out false
/-- texts are written one behind the other, then all is flushed -/
def layV (d : Dk) : List (Int × List UInt8) → Dk × Int
  | [] => d.flush
  | x :: r => if (d.write x.1 x.2).2 = 0 then layV (d.write x.1 x.2).1 r else d.write x.1 x.2
theorem Dk.write_ok {d : Dk} (h : d.Ok) (n : Int) (t : List UInt8) (hp : d.pend.length < 1000000) : (d.write n t).1.Ok ∧ (d.write n t).1.pend.length ≤ d.pend.length + 1 ∧ (d.write n t).1.seen.length = d.seen.length := by
  unfold Dk.write
  split
  · exact ⟨h, Nat.le_succ _, rfl⟩
  · split
    · exact ⟨h, Nat.le_succ _, rfl⟩
    · have hf := Dk.falls_ok h
      obtain ⟨e1, e2, e3⟩ := d.falls_fields
      split
      · exact ⟨hf, by show d.falls.pend.length ≤ _; rw [e3]; exact Nat.le_succ _, by show d.falls.seen.length = _; rw [e1]⟩
      · rename_i q2 q3
        refine ⟨⟨hf.lo, hf.hi, ?_, ?_, ?_, ?_⟩, ?_, ?_⟩
        · show (d.falls.seen.set _ _).length ≤ _
          rw [List.length_set]; exact hf.len
        · show _ = (d.falls.seen.set _ _).length
          rw [List.length_set]; exact hf.safe
        · show (d.falls.pend ++ _).length ≤ _
          rw [List.length_append, e3, List.length_singleton]; omega
        · intro x hx
          show _ ∧ _ < ((d.falls.seen.set _ _).length : Int)
          rw [List.length_set]
          rcases List.mem_append.1 (show x ∈ d.falls.pend ++ [(n, t)] from hx) with hx | hx
          · exact hf.at_ x hx
          · rw [List.mem_singleton] at hx
            subst hx
            rw [e1]
            have q4 : d.isb n = true := by
              cases q5 : d.isb n with
              | true => rfl
              | false => rw [q5] at q2; simp at q2
            unfold Dk.isb at q4
            rw [Bool.and_eq_true, decide_eq_true_eq, decide_eq_true_eq] at q4
            exact q4
        · show (d.falls.pend ++ _).length ≤ _
          rw [List.length_append, e3, List.length_singleton]
          exact Nat.le_refl _
        · show (d.falls.seen.set _ _).length = _
          rw [List.length_set, e1]
theorem lwrite (w : World) (bl bd : Nat) (F : Nat → Prop) (size : Int) (dead : Bool) (d : Dk) (n : Int) (t : List UInt8) (h : LogIs w bl bd F size dead d) (ho : d.Ok) : Calls Try.prog 84 #[.pointer (some ⟨bd, 0, none⟩), .int .i64 n, .string (bs t)] w (LStep w bl bd F size dead (d.write n t).1 (.int .i64 (d.write n t).2)) := by
  obtain ⟨H, h1, h2, h3⟩ := h.disk
  refine (dwrite w bd H d n t h1 ho).mono ?_
  rintro e w1 ⟨rfl, G, hg, hs⟩
  exact ⟨rfl, h.step_disk h2 h3 hg hs⟩
theorem lflush (w : World) (bl bd : Nat) (F : Nat → Prop) (size : Int) (dead : Bool) (d : Dk) (h : LogIs w bl bd F size dead d) (ho : d.Ok) (hne : 0 < d.seen.length) : Calls Try.prog 85 #[.pointer (some ⟨bd, 0, none⟩)] w (LStep w bl bd F size dead d.flush.1 (.int .i64 d.flush.2)) := by
  obtain ⟨H, h1, h2, h3⟩ := h.disk
  refine (dflush w bd H d h1 ho hne).mono ?_
  rintro e w1 ⟨rfl, G, hg, hs⟩
  exact ⟨rfl, h.step_disk h2 h3 hg hs⟩
theorem plLay : Plan (opsOf Try.f67 4) [9, 10] [0, 1, 2, 3, 5, 7, 4, 6, 8, 9, 10, 11] [0, 0, 0, 0, 1, 0, 1, 0, 1, 3, 3, 0] := plan_mk (true, [([], []), ([], []), ([1], [1]), ([2], [2]), ([3], [3]), ([], []), ([5], [5]), ([], []), ([7], [7]), ([4, 6, 8], [4, 6, 8]), ([0, 9, 9], [0, 9]), ([10, 10, 0, 1, 2, 3, 4, 5, 6, 7, 8, 9, 10], [10])]) [0, 0, 2, 6, 14, 0, 32, 0, 128, 510, 1023, 2047] (by kernel_rfl) (by kernel_rfl) (by kernel_rfl)
/-- the disk behind k writes that went well -/
def Dk.wrote (d : Dk) (l : List (Int × List UInt8)) : Dk := l.foldl (fun d x => (d.write x.1 x.2).1) d
def Dk.well (d : Dk) : List (Int × List UInt8) → Prop
  | [] => True
  | x :: r => (d.write x.1 x.2).2 = 0 ∧ (d.write x.1 x.2).1.well r
theorem layV_well (d : Dk) (a b : List (Int × List UInt8)) (h : d.well a) : layV d (a ++ b) = layV (d.wrote a) b := by
  induction a generalizing d with
  | nil => rfl
  | cons x r ih =>
    obtain ⟨h1, h2⟩ := h
    show layV d (x :: (r ++ b)) = _
    rw [layV, if_pos h1]
    exact ih _ h2
theorem well_snoc (d : Dk) (a : List (Int × List UInt8)) (x : Int × List UInt8) (h : d.well a) (hx : ((d.wrote a).write x.1 x.2).2 = 0) : d.well (a ++ [x]) := by
  induction a generalizing d with
  | nil => exact ⟨hx, trivial⟩
  | cons y r ih => exact ⟨h.1, ih _ h.2 hx⟩
theorem wrote_snoc (d : Dk) (a : List (Int × List UInt8)) (x : Int × List UInt8) : d.wrote (a ++ [x]) = ((d.wrote a).write x.1 x.2).1 := by
  unfold Dk.wrote
  rw [List.foldl_append]
  rfl
theorem wrote_ok {d : Dk} (h : d.Ok) (a : List (Int × List UInt8)) (hp : d.pend.length + a.length ≤ 1000000) : (d.wrote a).Ok ∧ (d.wrote a).pend.length ≤ d.pend.length + a.length ∧ (d.wrote a).seen.length = d.seen.length := by
  induction a generalizing d with
  | nil => exact ⟨h, Nat.le_refl _, rfl⟩
  | cons x r ih =>
    simp only [List.length_cons] at hp
    obtain ⟨h1, h2, h3⟩ := Dk.write_ok h x.1 x.2 (by omega)
    obtain ⟨h4, h5, h6⟩ := ih h1 (by omega)
    refine ⟨h4, ?_, h6.trans h3⟩
    simp only [List.length_cons]
    exact Nat.le_trans h5 (by omega)
theorem dead_or (b : Bool) (e : Int) (h : e = 0) : (b || (e == 9)) = b := by
  subst h
  cases b <;> rfl
set_option maxRecDepth 100000 in
theorem lay_any (w : World) (bl bd : Nat) (F : Nat → Prop) (size : Int) (dead : Bool) (d : Dk) (l : List (Int × List UInt8)) (A : Option Addr) (c : Nat) (h : LogIs w bl bd F size dead d) (ho : d.Ok) (hne : 0 < d.seen.length) (hp : d.pend.length + l.length ≤ 1000000) (hA : kWr.C w A l.length l) (hAF : ∀ ad, A = some ad → 0 < l.length → ¬ F ad.block) :
    Calls Try.prog 67 #[.pointer (some ⟨bl, 0, none⟩), .slice A l.length c] w (LStep w bl bd F size (dead || ((layV d l).2 == 9)) (layV d l).1 (.int .i64 (layV d l).2)) := by
  have HA := Lib.hid hA
  have HAF := Lib.hid hAF
  have HL := Lib.hid h
  have HO := Lib.hid ho
  have hm := hA.2.1
  clear h hA hAF ho
  go_enter Try.func67, Try.ntmps67
  go_wp2
  go_loopw [10] (fun i wr => ∃ k : Nat, k ≤ l.length ∧ i = .int .i64 k ∧ Hid (d.well (l.take k)) ∧ Hid (∃ F', LogIs wr bl bd F' size dead (d.wrote (l.take k)) ∧ Step F F' w wr)) (fun i _ => l.length - (intOf i).toNat)
  case atStart => exact ⟨0, Nat.zero_le _, rfl, Lib.hid trivial, Lib.hid ⟨F, HL.out, Step.refl _ _⟩⟩
  case round =>
    obtain ⟨k, hk, rfl, HW, HS⟩ := hrel
    obtain ⟨F1, hl1, hs1⟩ := HS.out
    have HL1 := Lib.hid hl1
    have HS1 := Lib.hid hs1
    have c0 := blk_cell hl1.blk 0
    clear hl1 hs1 HS
    by_cases hlt : k < l.length
    · have hC : kWr.C wr A l.length l := kWr_C_touch HA.out HS1.out.touch HAF.out
      obtain ⟨ad, rfl, p0, p1⟩ := at_wr hC (k : Int) (by omega) (by omega)
      rw [rdOf_get zWr l k hlt] at p0 p1
      rw [Int.toNat_natCast] at p0 p1
      have HN := Lib.hid (show l.take (k + 1) = l.take k ++ [l[k]] from List.take_succ_eq_append_getElem hlt)
      have HD := Lib.hid (show l = l.take k ++ (l[k] :: l.drop (k + 1)) by rw [List.getElem_cons_drop, List.take_append_drop])
      have HOk := Lib.hid (wrote_ok HO.out (l.take k) (by rw [List.length_take]; omega))
      generalize l[k] = x at *
      obtain ⟨n, t⟩ := x
      dsimp only at p0 p1
      have hz : bl < wr.heap.size := blk_lt HL1.out.blk
      clear hC
      go_wp2_with fail
      have HLx := Lib.hid (HL1.out.below (below_drew (below_alloc (Below.refl _ _) (.cells #[.int .i64 n, .string (bs t)] 66 (0, 0)))))
      refine way_start (fun w' => w'.cell? ⟨bl, 0, none⟩ = some (.pointer (some ⟨bd, 0, none⟩)) ∧ w'.cell? ⟨wr.heap.size, 0, none⟩ = some (.int .i64 n) ∧ w'.cell? ⟨wr.heap.size, 1, none⟩ = some (.string (bs t))) plLay (by kernel_rfl) rfl (⟨by go_simp, by go_simp, by go_simp⟩) (fun hHeld => ?_)
      repeat (first
        | (refine way_pure (v := undef) (a' := ?_) plLay rfl rfl rfl (fun _ _ _ h => h) (Or.inr ⟨by rfl, rfl⟩) ?_ ?_; rotate_left; (· (simp only [aw]; rfl)))
        | (refine way_pure (v := ?_) (a' := ?_) plLay rfl rfl rfl (fun _ _ _ h => h) (Or.inl ⟨by rfl, ?_⟩) ?_ ?_; rotate_left; (· (intro w'; go_simp; with_reducible rfl)); rotate_left; (· (simp only [aw]; rfl)))
        | (refine way_take (v := ?_) (a' := ?_) plLay rfl rfl rfl (fun _ _ _ h => h) (Or.inl ⟨by rfl, ?_⟩) hHeld ?_ ?_; rotate_left; (· (rintro w' ⟨s0, s1, s2⟩; go_simp; with_reducible rfl)); rotate_left; (· (simp only [aw]; rfl))))
      refine way_last plLay rfl rfl rfl (fun K hK => ?_)
      refine goes_ Try.func84 (by kernel_rfl) rfl #[.pointer (some ⟨bd, 0, none⟩), .int .i64 n, .string (bs t)] (by rfl) rfl rfl (by simp only [List.map_toArray, List.map_cons, List.map_nil]; rfl) ?_
      with_reducible refine (lwrite _ bl bd F1 size dead _ n t HLx.out HOk.out.1).mono ?_
      rintro e w2 ⟨rfl, F2, hl2, hs2⟩
      refine ⟨_, rfl, ?_⟩
      have HL2 := Lib.hid hl2
      have HS2 := Lib.hid hs2
      clear hl2 hs2
      refine hK.out _ _ ?_
      clear hK K
      refine way_norm (a' := ?_) ?_ ?_
      rotate_left
      · simp only [aw]
        rfl
      generalize hE : ((d.wrote (l.take k)).write n t).2 = e1 at *
      have HE := Lib.hid hE
      clear hE
      refine way_last plLay rfl rfl rfl (fun K hK => ?_)
      refine goes_ Try.func58 (by kernel_rfl) rfl #[.pointer (some ⟨bl, 0, none⟩), .int .i64 e1] (by rfl) rfl rfl (by simp only [List.map_toArray, List.map_cons, List.map_nil]; rfl) ?_
      with_reducible refine (met_any w2 bl bd F2 size dead _ e1 HL2.out).mono ?_
      rintro e w3 ⟨rfl, F3, hl3, hs3⟩
      refine ⟨_, rfl, ?_⟩
      have HL3 := Lib.hid hl3
      have HS3 := Lib.hid hs3
      clear hl3 hs3
      refine hK.out _ _ ?_
      clear hK K
      refine way_norm (a' := ?_) ?_ ?_
      rotate_left
      · simp only [aw]
        rfl
      repeat (first
        | (refine way_pure (v := undef) (a' := ?_) plLay rfl rfl rfl (fun _ _ _ h => h) (Or.inr ⟨by rfl, rfl⟩) ?_ ?_; rotate_left; (· (simp only [aw]; rfl)))
        | (refine way_pure (v := ?_) (a' := ?_) plLay rfl rfl rfl (fun _ _ _ h => h) (Or.inl ⟨by rfl, ?_⟩) ?_ ?_; rotate_left; (· (intro w'; go_simp; with_reducible rfl)); rotate_left; (· (simp only [aw]; rfl)))
        | (refine way_take (v := ?_) (a' := ?_) plLay rfl rfl rfl (fun _ _ _ h => h) (Or.inl ⟨by rfl, ?_⟩) hHeld ?_ ?_; rotate_left; (· (rintro w' ⟨s0, s1, s2⟩; go_simp; with_reducible rfl)); rotate_left; (· (simp only [aw]; rfl))))
      refine way_done plLay rfl (by decide) ?_
      have HSS := Lib.hid (HS1.out.trans ((Step.ahead (below_drew (below_alloc (Below.refl _ _) _)) HS2.out).trans HS3.out))
      by_cases q : e1 = 0
      · subst q
        have hl3 := HL3.out
        rw [dead_or dead 0 rfl] at hl3
        have HL4 := Lib.hid hl3
        clear hl3
        go_wp2
        refine ⟨⟨k + 1, by omega, by go_num, Lib.hid ?_, Lib.hid ⟨F3, ?_, HSS.out⟩⟩, by simp [intOf]; omega⟩
        · rw [HN.out]
          exact well_snoc d _ (n, t) HW.out HE.out
        · rw [HN.out, wrote_snoc]
          exact HL4.out
      · have b1 : (e1 != 0) = true := by rw [bne_iff_ne]; exact q
        have HQ : Hid (layV d l = (d.wrote (l.take k)).write n t) := Lib.hid (by
          rw [HD.out, layV_well d _ _ HW.out, layV, if_neg (by rw [HE.out]; exact q)]
          rw [← HD.out])
        go_wp2
        go_ret
        rw [HQ.out, HE.out]
        exact ⟨rfl, F3, HL3.out, HSS.out⟩
    · obtain rfl : k = l.length := by omega
      rw [List.take_length] at HW HL1
      obtain ⟨o1, o2, o3⟩ := wrote_ok HO.out l hp
      have HFl := Lib.hid (lflush wr bl bd F1 size dead _ HL1.out o1 (by omega))
      have HQ : Hid (layV d l = (d.wrote l).flush) := Lib.hid (by
        have := layV_well d l [] HW.out
        rwa [List.append_nil] at this)
      clear o1 o2 o3
      go_wp2_with (first
        | (go_at_call 85; (with_reducible refine (HFl.out).mono ?_); rintro e w2 ⟨rfl, F2, hl2, hs2⟩; have HL2 := Lib.hid hl2; clear hl2; have HS2 := Lib.hid hs2; clear hs2)
        | (go_at_call 58; (with_reducible refine (met_any w2 bl bd F2 size dead _ _ HL2.out).mono ?_); rintro e w3 ⟨rfl, F3, hl3, hs3⟩; have HL3 := Lib.hid hl3; clear hl3; have HS3 := Lib.hid hs3; clear hs3))
      go_ret
      rw [HQ.out]
      exact ⟨rfl, F3, HL3.out, HS1.out.trans (HS2.out.trans HS3.out)⟩
end Go.Proofs.Ythijhmidmhgfaaa

set_option linter.unusedVariables false
set_option linter.unusedSimpArgs false
namespace Go.Proofs.Ythijhmidmhgfaaa
open Go.RowKit Go.Proofs.YthijhmidmhgfaaaW.PrintWords Go.Proofs.YthijhmidmhgfaaaW.PrintLast
def sizeMark : List UInt8 := [99, 111, 102, 102, 101, 114, 32, 108, 111, 103, 32, 115, 105, 122, 101, 32]
def commitMark : List UInt8 := [99, 111, 102, 102, 101, 114, 32, 99, 111, 109, 109, 105, 116, 32, 32, 32]
theorem lread (w : World) (bl bd : Nat) (F : Nat → Prop) (size : Int) (dead : Bool) (d : Dk) (n : Int) (h : LogIs w bl bd F size dead d) : Calls Try.prog 59 #[.pointer (some ⟨bd, 0, none⟩), .int .i64 n] w fun e w' => e = .returned (.tuple #[.string (bs (d.read n).1), .int .i64 (d.read n).2]) ∧ w = w' := by
  obtain ⟨H, h1, h2, h3⟩ := h.disk
  exact dread w bd H d n h1
theorem recover_none (w : World) (bl bd : Nat) (F : Nat → Prop) (size : Int) (dead : Bool) (d : Dk) (b : List UInt8) (h : LogIs w bl bd F size dead d) (hr : d.read 1 = (b, 0)) (hb : b.length = 512) (hn : (noteV commitMark b).2 = false) :
    Calls Try.prog 76 #[.pointer (some ⟨bl, 0, none⟩)] w fun e w' => e = .returned (.int .i64 0) ∧ Below w.heap.size w w' := by
  have HR := Lib.hid (lread w bl bd F size dead d 1 h)
  rw [hr] at HR
  have HN := fun w' => Lib.hid (note_any w' commitMark b (by decide) hb)
  rw [hn] at HN
  have HN2 : ∀ w', Hid (Calls Try.prog 75 #[.string ⟨#[99, 111, 102, 102, 101, 114, 32, 99, 111, 109, 109, 105, 116, 32, 32, 32]⟩, .string (bs b)] w' fun e w1 => e = .returned (.tuple #[.int .i64 (noteV commitMark b).1, .bool false]) ∧ Below w'.heap.size w' w1) := HN
  generalize (noteV commitMark b).1 = n at *
  have c0 := blk_cell h.blk 0
  clear h hr hn HN
  go_enter Try.func76, Try.ntmps76
  go_wp2_with (first
    | (go_at_call 59; (with_reducible refine (HR.out).mono ?_); rintro e w1 ⟨rfl, rfl⟩)
    | (go_at_call 75; (with_reducible refine ((HN2 _).out).mono ?_); rintro e w2 ⟨rfl, hb2⟩; have HB2 := Lib.hid hb2; clear hb2))
  go_ret
  exact ⟨rfl, HB2.out⟩
theorem noteV_zero (m : List UInt8) (h : m ≠ []) (h0 : m.head? ≠ some 0) : (noteV m zeroS).2 = false := by
  unfold noteV
  dsimp only
  rw [show (zeroS == notedV m (wrap64 (numV ((zeroS.drop m.length).take 8)))) = false from ?_, Bool.and_false]
  refine beq_eq_false_iff_ne.2 (fun e => ?_)
  cases m with
  | nil => exact h rfl
  | cons x r =>
    have e2 := congrArg List.head? e
    apply h0
    rw [List.head?_cons]
    have e3 : zeroS.head? = some 0 := rfl
    rw [e3] at e2
    exact e2.symm
theorem wr_one {w : World} {g : Nat} {T : TypeId} (n : Int) (t : List UInt8) (h : w.heap[g]? = some (.cells #[.int .i64 n, .string (bs t)] T (0, 0))) : kWr.C w (some ⟨g, 0, none⟩) [(n, t)].length [(n, t)] := by
  refine ⟨rfl, by simp, fun _ => ⟨_, rfl, fun j p hj => ?_⟩⟩
  have hj0 : j = 0 := by
    have := (List.getElem?_eq_some_iff.1 hj).1
    simp at this
    omega
  subst hj0
  have hp : (n, t) = p := by simpa using hj
  subst hp
  refine ⟨[.int .i64 n, .string (bs t)], rfl, kWr_mk w (n, t), fun i u hu => ?_⟩
  rw [show (⟨g, 0, none⟩ : Addr).add (0 * kWr.sz + i) = ⟨g, i, none⟩ by rw [add_at]; congr 1; omega, blk_cell h]
  simpa using hu
/-- a disk on which a log of that size has been made -/
def openedD (n : Nat) (size : Int) : Dk := ⟨(List.replicate n zeroS).set 0 (notedV sizeMark size), (List.replicate n zeroS).set 0 (notedV sizeMark size), [], 0, false, false⟩
theorem zerosD_ok (n : Nat) (h : n ≤ 8192) : (zerosD n).Ok := ⟨by simp [zerosD], by simp [zerosD], by simp [zerosD]; omega, by simp [zerosD], by simp [zerosD], fun x hx => by simp [zerosD] at hx⟩
theorem lay_new (n : Nat) (size : Int) (h : 1 ≤ n) : layV (zerosD n) [(0, notedV sizeMark size)] = (openedD n size, 0) := by
  have hi : (zerosD n).isb 0 = true := by
    unfold Dk.isb zerosD
    simp
    omega
  have hw : (zerosD n).write 0 (notedV sizeMark size) = ((zerosD n).put 0 (notedV sizeMark size), 0) := by
    unfold Dk.write
    rw [hi, notedV_len sizeMark size (by decide)]
    rfl
  rw [layV, hw, if_pos rfl]
  rfl
theorem read_zeros (n : Nat) (k : Nat) (h : k < n) : (zerosD n).read (k : Int) = (zeroS, 0) := by
  unfold Dk.read
  rw [show (zerosD n).off = false from rfl, show (zerosD n).isb (k : Int) = true by unfold Dk.isb zerosD; simp; omega]
  show (rdOf [] (List.replicate n zeroS) (k : Int), (0 : Int)) = _
  rw [rdOf_get [] _ k (by simpa using h), List.getElem_replicate]
theorem read_opened (n : Nat) (size : Int) (k : Nat) (h : k < n) (h0 : 0 < k) : (openedD n size).read (k : Int) = (zeroS, 0) := by
  unfold Dk.read
  rw [show (openedD n size).off = false from rfl, show (openedD n size).isb (k : Int) = true by unfold Dk.isb openedD; simp; omega]
  show (rdOf [] ((List.replicate n zeroS).set 0 _) (k : Int), (0 : Int)) = _
  rw [rdOf_get [] _ k (by simpa using h), List.getElem_set_ne (by omega), List.getElem_replicate]
set_option maxRecDepth 100000 in
theorem open_new (w : World) (bd n : Nat) (F : Nat → Prop) (size : Int) (h : DiskIs w bd F (zerosD n)) (hF : ∀ k, F k → k < w.heap.size) (h1 : 4 ≤ size) (h2 : size < n) (h3 : n ≤ 8192) :
    Calls Try.prog 52 #[.pointer (some ⟨bd, 0, none⟩), .int .i64 size] w fun e w' => ∃ bl F', e = .returned (.tuple #[.pointer (some ⟨bl, 0, none⟩), .int .i64 0]) ∧ LogIs w' bl bd F' size false (openedD n size) ∧ Step F F' w w' := by
  have HOf := Lib.hid (doff w bd F _ h)
  have HSe := fun w' (hb : Below w.heap.size w w') => Lib.hid (dsectors w' bd F _ (h.below hb))
  rw [show (zerosD n).seen.length = n from List.length_replicate ..] at HSe
  have HD := Lib.hid h
  have b1 : decide (size < 4) = false := decide_eq_false (by omega)
  have b2 : decide ((n : Int) ≤ size) = false := decide_eq_false (by omega)
  have HF := Lib.hid hF
  have hdl : bd < w.heap.size := hF _ h.in_
  clear h hF
  have HLg : ∀ o, Hid (o = Obj.cells #[.pointer (some ⟨bd, 0, none⟩), .int .i64 size, .bool false] 81 (0, 0) → LogIs (w.alloc o) w.heap.size bd (fun k => F k ∨ k = w.heap.size) size false (zerosD n)) := fun o => Lib.hid (fun e => by
    subst e
    exact ⟨blk_new w _, ⟨F, HD.out.below (below_alloc (Below.refl _ _) _), fun k hk => .inl hk, fun hk => by have := HF.out _ hk; omega⟩, .inr rfl⟩)
  have HRd := fun w' (hb : Below w.heap.size w w') => Lib.hid (dread w' bd F _ 0 (HD.out.below hb))
  rw [show (zerosD n).read 0 = (zeroS, 0) from read_zeros n 0 (by omega)] at HRd
  have HFi := fun w' => Lib.hid (filled_any w' [] (by decide))
  rw [filledV_nil] at HFi
  have HFi2 : ∀ w', Hid (Calls Try.prog 66 #[.string ⟨#[]⟩] w' fun e w1 => e = .returned (.string (bs zeroS)) ∧ Below w'.heap.size w' w1) := HFi
  have HNo := fun w' => Lib.hid (noted_any w' sizeMark size (by decide) (by omega) (by omega))
  have HNo2 : ∀ w', Hid (Calls Try.prog 68 #[.string ⟨#[99, 111, 102, 102, 101, 114, 32, 108, 111, 103, 32, 115, 105, 122, 101, 32]⟩, .int .i64 size] w' fun e w1 => e = .returned (.string (bs (notedV sizeMark size))) ∧ Below w'.heap.size w' w1) := HNo
  clear HFi HNo
  go_enter Try.func52, Try.ntmps52
  go_wp2_with (first
    | (go_at_call 36; (with_reducible refine (HOf.out).mono ?_); rintro e w1 ⟨rfl, rfl⟩)
    | (go_at_call 40; (with_reducible refine ((HSe _ (Below.refl _ _)).out).mono ?_); rintro e w1 ⟨rfl, rfl⟩)
    | (go_at_call 59; (with_reducible refine ((HRd _ (below_alloc (Below.refl _ _) _)).out).mono ?_); rintro e w2 ⟨rfl, rfl⟩)
    | (go_at_call 66; (with_reducible refine ((HFi2 _).out).mono ?_); rintro e w3 ⟨rfl, hb3⟩; have HB3 := Lib.hid hb3; clear hb3)
    | (go_at_call 68; (with_reducible refine ((HNo2 _).out).mono ?_); rintro e w4 ⟨rfl, hb4⟩; have HB4 := Lib.hid hb4; clear hb4))
  have hl4 := ((HLg _).out rfl).below ((below_then HB3.out HB3.out.size HB4.out).trans ((below_alloc (Below.refl _ _) (.cells #[.int .i64 0, .string (bs (notedV sizeMark size))] 66 (0, 0))).mono (Nat.le_trans HB3.out.size HB4.out.size)))
  have hsz : w.heap.size + 1 ≤ w4.heap.size := by
    have h5 := HB3.out.size
    have h6 := HB4.out.size
    simp [go_sem] at h5
    omega
  have hLay := lay_any _ w.heap.size bd _ size false (zerosD n) [(0, notedV sizeMark size)] (some ⟨w4.heap.size, 0, none⟩) 1 hl4 (zerosD_ok n h3) (by simp [zerosD]; omega) (by simp [zerosD]) (wr_one 0 _ (blk_new w4 _)) (fun ad he _ hf => by
    cases he
    rcases hf with hf | hf
    · have := HF.out _ hf
      dsimp only at this
      omega
    · dsimp only at hf
      omega)
  rw [lay_new n size (by omega), show [((0 : Int), notedV sizeMark size)].length = 1 from rfl] at hLay
  have HLay := Lib.hid hLay
  clear hLay
  (with_reducible refine HLay.out.mono ?_)
  rintro e w5 ⟨rfl, F5, hl5, hs5⟩
  have HL5 := Lib.hid hl5
  have HS5 := Lib.hid hs5
  have HRe := Lib.hid (recover_none w5 w.heap.size bd F5 size _ (openedD n size) zeroS hl5 (read_opened n size 1 (by omega) (by omega)) zeroS_len (noteV_zero commitMark (by decide) (by decide)))
  clear hl5 hs5 hl4
  go_wp2_with (go_at_call 76; (with_reducible refine (HRe.out).mono ?_); rintro e w6 ⟨rfl, hb6⟩; have HB6 := Lib.hid hb6; clear hb6)
  go_ret2
  refine ⟨w.heap.size, F5, rfl, HL5.out.below HB6.out, ?_⟩
  have s0 : Step F (fun k => F k ∨ k = w.heap.size) w (w4.alloc (.cells #[.int .i64 0, .string (bs (notedV sizeMark size))] 66 (0, 0))) := by
    refine ⟨Touch.of ?_, fun k hk => ?_⟩
    · exact (below_alloc (Below.refl _ _) _).trans (((below_then HB3.out HB3.out.size HB4.out).mono (by simp [go_sem])).trans ((below_alloc (Below.refl _ _) _).mono (by omega)))
    · rcases hk with hk | hk
      · exact .inl hk
      · exact .inr (by omega)
  exact (s0.trans HS5.out).then HB6.out
end Go.Proofs.Ythijhmidmhgfaaa

set_option linter.unusedVariables false
set_option linter.unusedSimpArgs false
namespace Go.Proofs.Ythijhmidmhgfaaa
open Go.RowKit Go.Proofs.YthijhmidmhgfaaaW.PrintWords
/-- a disk that is on, of n sectors -/
structure DiskOn (w : World) (bd n : Nat) (S : Option Addr) (c : Nat) (safe pend : Value) (fall : Int) (opn : Bool) : Prop where
  blk : w.heap[bd]? = some (.cells #[.slice S n c, safe, pend, .int .i64 fall, .bool false, .bool opn] 113 (0, 0))
/-- a log that lives, on such a disk -/
structure LogOn (w : World) (bl bd n : Nat) : Prop where
  blk : w.heap[bl]? = some (.cells #[.pointer (some ⟨bd, 0, none⟩), .int .i64 24, .bool false] 81 (0, 0))
  disk : ∃ S c safe pend fall opn, DiskOn w bd n S c safe pend fall opn
theorem LogOn.below {w w1 : World} {bl bd n : Nat} (h : LogOn w bl bd n) (hb : Below w.heap.size w w1) : LogOn w1 bl bd n := by
  obtain ⟨S, c, safe, pend, fall, opn, h2⟩ := h.disk
  exact ⟨(hb.block bl (Array.getElem?_eq_some_iff.1 h.blk).1).trans h.blk, S, c, safe, pend, fall, opn, ⟨(hb.block bd (Array.getElem?_eq_some_iff.1 h2.blk).1).trans h2.blk⟩⟩
theorem LogOn.drew {w : World} {bl bd n : Nat} (h : LogOn w bl bd n) : LogOn w.drew bl bd n := h.below (below_drew (Below.refl _ _))
end Go.Proofs.Ythijhmidmhgfaaa

set_option linter.unusedVariables false
set_option linter.unusedSimpArgs false
namespace Go.Proofs.Ythijhmidmhgfaaa
open Go.RowKit Go.Proofs.YthijhmidmhgfaaaW.PrintWords Go.Maps Go.ChangeMaps
/-- a block's value -/
def u8V (x : UInt8) : Value := .int .u8 (x.toNat : Int)
def blkV (l : List UInt8) : Value := .agg (l.map u8V).toArray
theorem blkV_inj {a b : List UInt8} (h : blkV a = blkV b) : a = b := by
  unfold blkV at h
  injection h with h
  have h2 : a.map u8V = b.map u8V := by simpa using h
  have hj : Function.Injective u8V := by
    intro x y hxy
    unfold u8V at hxy
    injection hxy with _ hxy
    exact UInt8.toNat_inj.1 (by omega)
  exact List.map_inj_right (fun x y h => hj h) |>.1 h2
open Classical in
/-- how a block reads -/
noncomputable def blkElem (v : Value) : Option (DataW Unit × List MemPlace) :=
  if h : ∃ l : List UInt8, l.length = 512 ∧ v = blkV l then some (.lit (.string h.choose), []) else none
theorem blkElem_mk (l : List UInt8) (hl : l.length = 512) : blkElem (blkV l) = some (.lit (.string l), []) := by
  have h : ∃ m : List UInt8, m.length = 512 ∧ blkV l = blkV m := ⟨l, hl, rfl⟩
  unfold blkElem
  rw [dif_pos h, ← blkV_inj h.choose_spec.2]
theorem blkElem_inv {v : Value} {l : List UInt8} {ps : List MemPlace} (h : blkElem v = some (.lit (.string l), ps)) : l.length = 512 ∧ v = blkV l ∧ ps = [] := by
  unfold blkElem at h
  split at h
  · rename_i hh
    injection h with h
    injection h with h1 h2
    injection h1 with h1
    injection h1 with h1
    subst h1
    exact ⟨hh.choose_spec.1, hh.choose_spec.2, h2.symm⟩
  · cases h
end Go.Proofs.Ythijhmidmhgfaaa

set_option linter.unusedVariables false
set_option linter.unusedSimpArgs false
namespace Go.Proofs.Ythijhmidmhgfaaa
open Go.RowKit Go.Proofs.YthijhmidmhgfaaaW.PrintWords Go.Proofs.YthijhmidmhgfaaaW.PrintLast Go.Maps Go.ChangeMaps
def entW (x : Int × List UInt8) : Lit × DataW Unit := (.int .i64 x.1, .lit (.string x.2))
def txD (m : List (Int × List UInt8)) : DataW Unit := .map (m.map entW)
/-- what was written, by rising numbers -/
def insW (x : Int × List UInt8) : List (Int × List UInt8) → List (Int × List UInt8)
  | [] => [x]
  | y :: r => if x.1 < y.1 then x :: y :: r else y :: insW x r
def putW (k : Int) (t : List UInt8) (m : List (Int × List UInt8)) : List (Int × List UInt8) := insW (k, t) (m.filter fun p => !(p.1 == k))
def getW (m : List (Int × List UInt8)) (k : Int) : Option (List UInt8) := (m.find? fun p => p.1 == k).map (·.2)
theorem sameKey_int (a b : Int) : (Lit.int .i64 a).sameKey (.int .i64 b) = (a == b) := by
  show decide (IntKind.i64 = IntKind.i64 ∧ a = b) = (a == b)
  by_cases h : a = b
  · subst h; simp
  · simp [h]
theorem insert_ent (x : Int × List UInt8) : ∀ m : List (Int × List UInt8), DataW.insert (entW x) (m.map entW) = (insW x m).map entW
  | [] => rfl
  | y :: r => by
    show (if (entW x).1.before (entW y).1 then entW x :: entW y :: r.map entW else entW y :: DataW.insert (entW x) (r.map entW)) = _
    rw [insert_ent x r]
    show (if decide (x.1 < y.1) = true then _ else _) = _
    rw [insW]
    by_cases h : x.1 < y.1
    · rw [if_pos (by simpa using h), if_pos h]
      rfl
    · rw [if_neg (by simpa using h), if_neg h]
      rfl
theorem txD_put (m : List (Int × List UInt8)) (k : Int) (t : List UInt8) : (txD m).put (.int .i64 k) (.lit (.string t)) = txD (putW k t m) := by
  show DataW.map (DataW.insert (entW (k, t)) ((m.map entW).filter fun p => !p.1.sameKey (.int .i64 k))) = _
  rw [List.filter_map]
  rw [show ((fun p : Lit × DataW Unit => !p.1.sameKey (.int .i64 k)) ∘ entW) = (fun p : Int × List UInt8 => !(p.1 == k)) from funext (fun p => by show (!(Lit.int .i64 p.1).sameKey (.int .i64 k)) = _; rw [sameKey_int])]
  rw [insert_ent]
  rfl
theorem txD_find (m : List (Int × List UInt8)) (k : Int) : (m.map entW).find? (fun p => p.1.sameKey (.int .i64 k)) = (m.find? fun p => p.1 == k).map entW := by
  rw [List.find?_map]
  rw [show ((fun p : Lit × DataW Unit => p.1.sameKey (.int .i64 k)) ∘ entW) = (fun p : Int × List UInt8 => p.1 == k) from funext (fun p => by show (Lit.int .i64 p.1).sameKey (.int .i64 k) = _; rw [sameKey_int])]
theorem any_find {α : Type} (f : α → Bool) : ∀ l : List α, l.any f = (l.find? f).isSome
  | [] => rfl
  | x :: r => by
    rw [List.any_cons, List.find?_cons]
    cases h : f x with
    | true => rfl
    | false => rw [Bool.false_or, any_find f r]
theorem txD_at (m : List (Int × List UInt8)) (k : Int) (z : DataW Unit) : (txD m).atKey (.int .i64 k) z = match getW m k with | some t => .lit (.string t) | none => z := by
  unfold txD DataW.atKey
  dsimp only
  rw [txD_find]
  unfold getW
  cases m.find? fun p => p.1 == k <;> rfl
theorem txD_has (m : List (Int × List UInt8)) (k : Int) : Maps.has (txD m) (.int .i64 k) = (getW m k).isSome := by
  show (m.map entW).any (fun p => p.1.sameKey (.int .i64 k)) = _
  rw [any_find, txD_find]
  unfold getW
  cases m.find? fun p => p.1 == k <;> rfl
theorem ownsMap_tight {P : Program} {k : TypeId} {R : Value → Option (DataW Unit × List MemPlace)} {w : World} {b n : Nat} {D : DataW Unit} (h : w.ownsMap P k R b n D) : w.ownsMap P k R b (Maps.size D) D := by
  obtain ⟨es, clock, hb, F, hs, rfl⟩ := h
  exact ⟨es, clock, hb, F, by simp [Maps.size, length_sorted], rfl⟩
structure TxIs (w : World) (bt bm bl : Nat) (m : List (Int × List UInt8)) (ov : Bool) : Prop where
  blk : w.heap[bt]? = some (.cells #[.pointer (some ⟨bl, 0, none⟩), .map (some bm), .bool ov] 93 (0, 0))
  own : w.ownsMap Try.prog 3 blkElem bm m.length (txD m)
theorem TxIs.touch {w w1 : World} {bt bm bl : Nat} {m : List (Int × List UInt8)} {ov : Bool} {G : Nat → Prop} (h : TxIs w bt bm bl m ov) (ht : Touch G w w1) (h1 : ¬ G bt) (h2 : ¬ G bm) : TxIs w1 bt bm bl m ov := by
  obtain ⟨es, clock, hm, F, hs, hd⟩ := h.own
  exact ⟨ht.blk h.blk h1, es, clock, ht.blk hm h2, F, hs, hd⟩
theorem TxIs.below {w w1 : World} {bt bm bl : Nat} {m : List (Int × List UInt8)} {ov : Bool} (h : TxIs w bt bm bl m ov) (hb : Below w.heap.size w w1) : TxIs w1 bt bm bl m ov := h.touch (Touch.of (F := fun _ => False) hb) (fun hf => hf) (fun hf => hf)
theorem TxIs.ne {w : World} {bt bm bl : Nat} {m : List (Int × List UInt8)} {ov : Bool} (h : TxIs w bt bm bl m ov) : bt ≠ bm := by
  obtain ⟨es, clock, hm, F, hs, hd⟩ := h.own
  rintro rfl
  have := h.blk
  rw [hm] at this
  cases this
theorem plBlocks : Plan (opsOf Try.f12 1) [] [0, 1, 2, 5, 6, 7, 3, 8, 4, 9, 10] [0, 0, 0, 1, 2, 0, 0, 0, 1, 0, 0] := plan_mk (true, [([], []), ([0], [0]), ([1], [1]), ([2], [2]), ([3], [3]), ([], []), ([5], [5]), ([6], [6]), ([7], [7]), ([4, 8], [4, 8]), ([9, 4, 0, 1, 2, 3, 4, 5, 6, 7, 8, 9], [9])]) [0, 1, 3, 7, 15, 0, 32, 96, 224, 511, 1023] (by kernel_rfl) (by kernel_rfl) (by kernel_rfl)
set_option maxRecDepth 100000 in
theorem lblocks (w : World) (bl bd : Nat) (F : Nat → Prop) (size : Int) (dead : Bool) (d : Dk) (h : LogIs w bl bd F size dead d) (hn : d.seen.length ≤ 8192) (hs0 : 0 ≤ size) (hs1 : size ≤ 8192) : Calls Try.prog 12 #[.pointer (some ⟨bl, 0, none⟩)] w fun e w' => e = .returned (.int .i64 ((d.seen.length : Int) - size)) ∧ Below w.heap.size w w' := by
  obtain ⟨H, h1, h2, h3⟩ := h.disk
  have HS := Lib.hid (dsectors w.drew bd H d (h1.below (below_drew (Below.refl _ _))))
  have c0 := blk_cell h.blk 0
  have c1 := blk_cell h.blk 1
  clear h h1
  generalize d.seen.length = n at *
  go_enter Try.func12, Try.ntmps12
  go_wp2_with fail
  refine way_start (fun w' => w'.cell? ⟨bl, 1, none⟩ = some (.int .i64 size) ∧ w'.cell? ⟨bl, 0, none⟩ = some (.pointer (some ⟨bd, 0, none⟩))) plBlocks (by kernel_rfl) rfl (⟨c1, c0⟩) (fun hHeld => ?_)
  repeat (first
    | (refine way_pure (v := undef) (a' := ?_) plBlocks rfl rfl rfl (fun _ _ _ h => h) (Or.inr ⟨by rfl, rfl⟩) ?_ ?_; rotate_left; (· (simp only [aw]; rfl)))
    | (refine way_pure (v := ?_) (a' := ?_) plBlocks rfl rfl rfl (fun _ _ _ h => h) (Or.inl ⟨by rfl, ?_⟩) ?_ ?_; rotate_left; (· (intro w'; go_simp; with_reducible rfl)); rotate_left; (· (simp only [aw]; rfl)))
    | (refine way_take (v := ?_) (a' := ?_) plBlocks rfl rfl rfl (fun _ _ _ h => h) (Or.inl ⟨by rfl, ?_⟩) hHeld ?_ ?_; rotate_left; (· (rintro w' ⟨s0, s1⟩; go_simp; with_reducible rfl)); rotate_left; (· (simp only [aw]; rfl))))
  refine way_one plBlocks rfl rfl rfl (fun K hK => ?_)
  refine goes_ Try.func40 (by kernel_rfl) rfl #[.pointer (some ⟨bd, 0, none⟩)] (by rfl) rfl rfl (by simp only [List.map_toArray, List.map_cons, List.map_nil]; rfl) ?_
  with_reducible refine (HS.out).mono ?_
  rintro e w1 ⟨rfl, rfl⟩
  refine ⟨_, rfl, ?_⟩
  refine hK.out _ _ hHeld (fun hHeld => ?_)
  clear hK K
  refine way_norm (a' := ?_) ?_ ?_
  rotate_left
  · simp only [aw]
    rfl
  repeat (first
    | (refine way_pure (v := undef) (a' := ?_) plBlocks rfl rfl rfl (fun _ _ _ h => h) (Or.inr ⟨by rfl, rfl⟩) ?_ ?_; rotate_left; (· (simp only [aw]; rfl)))
    | (refine way_pure (v := ?_) (a' := ?_) plBlocks rfl rfl rfl (fun _ _ _ h => h) (Or.inl ⟨by rfl, ?_⟩) ?_ ?_; rotate_left; (· (intro w'; go_simp; with_reducible rfl)); rotate_left; (· (simp only [aw]; rfl)))
    | (refine way_take (v := ?_) (a' := ?_) plBlocks rfl rfl rfl (fun _ _ _ h => h) (Or.inl ⟨by rfl, ?_⟩) hHeld ?_ ?_; rotate_left; (· (rintro w' ⟨s0, s1⟩; go_simp; with_reducible rfl)); rotate_left; (· (simp only [aw]; rfl))))
  refine way_done plBlocks rfl (by decide) ?_
  go_wp2
  go_ret
  refine ⟨?_, below_drew (Below.refl _ _)⟩
  show Ending.returned (.int .i64 (wrap64 ((n : Int) - size))) = _
  rw [show wrap64 ((n : Int) - size) = (n : Int) - size by unfold wrap64; omega]
theorem txblocks (w : World) (bt bm bl bd : Nat) (m : List (Int × List UInt8)) (ov : Bool) (F : Nat → Prop) (size : Int) (dead : Bool) (d : Dk) (ht : TxIs w bt bm bl m ov) (h : LogIs w bl bd F size dead d) (hn : d.seen.length ≤ 8192) (hs0 : 0 ≤ size) (hs1 : size ≤ 8192) :
    Calls Try.prog 25 #[.pointer (some ⟨bt, 0, none⟩)] w fun e w' => e = .returned (.int .i64 ((d.seen.length : Int) - size)) ∧ Below w.heap.size w w' := by
  have HB := Lib.hid (lblocks w bl bd F size dead d h hn hs0 hs1)
  have c0 := blk_cell ht.blk 0
  clear h ht
  go_enter Try.func25, Try.ntmps25
  go_wp2_with (go_at_call 12; (with_reducible refine (HB.out).mono ?_); rintro e w1 ⟨rfl, hb⟩)
  go_ret
  exact ⟨rfl, hb⟩
end Go.Proofs.Ythijhmidmhgfaaa

set_option linter.unusedVariables false
set_option linter.unusedSimpArgs false
namespace Go.Proofs.Ythijhmidmhgfaaa
open Go.RowKit Go.Proofs.YthijhmidmhgfaaaW.PrintWords Go.Maps Go.ChangeMaps
theorem zeroBlk (w : World) : (zeroValue 95).run Try.prog w = .ok (blkV (List.replicate 512 0)) w := by kernel_rfl
theorem intKey : Keyed Try.prog 3 := int_keyed Try.underlying3
theorem infoBlk : (Try.prog.info? 95).map (·.size) = some 512 := by kernel_rfl
theorem nums_bs (l : List UInt8) : strOfNums (l.map fun x => (x.toNat : Int)) = bs l := by
  unfold strOfNums bs
  simp [Function.comp_def]
theorem blk_facts (l : List UInt8) (hl : l.length = 512) : ∃ cs : Array Value, blkV l = .agg cs ∧ cs.size = 512 ∧
    (∀ w : World, (storeCells ⟨w.heap.size, 0, none⟩ cs.toList).run Try.prog (w.alloc (.cells Try.zeroCells95 95)) = .ok () (w.alloc (.cells cs 95))) ∧
    (∀ w : World, (convert 40 9 (.slice (some ⟨w.heap.size, 0, none⟩) 512 512)).run Try.prog (w.alloc (.cells cs 95)) = .ok (.string (bs l)) (w.alloc (.cells cs 95))) := by
  have hs : (l.map u8V).toArray.size = 512 := by simp [hl]
  refine ⟨(l.map u8V).toArray, rfl, hs, fun w => ?_, fun w => ?_⟩
  · refine run_storeCells_new w _ _ _ (by rw [hs]; exact infoBlk) (by rw [hs]; kernel_rfl) ?_
    simp [u8V]
    intro x hx
    rfl
  · have h := run_convert_bytes_arg (P := Try.prog) (w.alloc (.cells (l.map u8V).toArray 95)) 40 5 Try.underlying40 Try.underlying5 w.heap.size 0 512 512 (l.map fun x => (x.toNat : Int)) (by simp [hl]) (fun i hi => by
      rw [cell_of_row _ _ _ _ _ (0, 0) (heap_alloc_last w _)]
      have hi' : i < l.length := by omega
      simp only [Nat.zero_add, List.getElem?_toArray, List.getElem?_map, List.getElem?_eq_getElem hi', Option.map_some, List.getD_eq_getElem?_getD, Option.getD_some]
      rfl) 9 Try.underlying9
    rwa [nums_bs] at h
structure TxOn (w : World) (bt bm bl bd n k : Nat) (D : DataW Unit) : Prop where
  blk : w.heap[bt]? = some (.cells #[.pointer (some ⟨bl, 0, none⟩), .map (some bm), .bool false] 93 (0, 0))
  own : w.ownsMap Try.prog 3 blkElem bm k D
  log : LogOn w bl bd n
end Go.Proofs.Ythijhmidmhgfaaa

set_option linter.unusedVariables false
set_option linter.unusedSimpArgs false
namespace Go.Proofs.Ythijhmidmhgfaaa
open Go.RowKit Go.Proofs.YthijhmidmhgfaaaW.PrintWords Go.Proofs.YthijhmidmhgfaaaW.PrintLast Go.Maps Go.ChangeMaps
/-- a store of what stands there turns nothing -/
theorem setCell_id {w : World} {g i : Nat} {t : TypeId} {cs : Array Value} {v : Value} (h : w.heap[g]? = some (.cells cs t (0, 0))) (hv : cs[i]? = some v) : w.setCell ⟨g, i, none⟩ v = w := by
  have hh : (w.setCell ⟨g, i, none⟩ v).heap = w.heap := by
    apply Array.ext_getElem?
    intro k
    by_cases hk : k = g
    · subst hk
      rw [blk_set h i v, h]
      congr 2
      apply Array.ext_getElem?
      intro j
      rw [Array.getElem?_setIfInBounds]
      split
      · rename_i e
        subst e
        obtain ⟨hl, _⟩ := Array.getElem?_eq_some_iff.1 hv
        rw [if_pos hl, hv]
      · rfl
    · exact Below.heap_setCell w ⟨g, i, none⟩ v k hk
  show ({ w with heap := _ } : World) = w
  have h2 : (w.setCell ⟨g, i, none⟩ v) = { w with heap := (w.setCell ⟨g, i, none⟩ v).heap } := rfl
  rw [hh] at h2
  exact h2
theorem met_same (w : World) (bl bd : Nat) (F : Nat → Prop) (size : Int) (d : Dk) (e0 : Int) (h : LogIs w bl bd F size false d) (he : (e0 == 9) = false) : Calls Try.prog 58 #[.pointer (some ⟨bl, 0, none⟩), .int .i64 e0] w fun e w' => e = .returned (.int .i64 e0) ∧ w = w' := by
  have c2 := blk_cell h.blk 2
  have f2 := blk_frozen h.blk 2
  have HI := Lib.hid (setCell_id (i := 2) (v := .bool false) h.blk rfl)
  clear h
  go_enter Try.func58, Try.ntmps58
  go_wp2
  go_ret
  exact ⟨rfl, HI.out.symm⟩
def logReadV (size : Int) (d : Dk) (n : Int) : List UInt8 × Int := if n < 0 ∨ (d.seen.length : Int) - size ≤ n then ([], 1) else (rdOf [] d.seen (size + n), 0)
theorem plRead : Plan (opsOf Try.f26 5) [] [0, 1, 2, 4, 5, 6, 8, 3, 7, 9, 10, 11, 12, 13, 14, 15] [0, 0, 0, 1, 0, 0, 0, 1, 0, 0, 2, 0, 0, 0, 0, 0] := plan_mk (true, [([], []), ([0], [0]), ([1], [1]), ([2], [2]), ([], []), ([4], [4]), ([5], [5]), ([6], [6]), ([], []), ([7, 8], [7, 8]), ([3, 9], [3, 9]), ([10], [10]), ([11], [11]), ([11], [11]), ([12, 10, 0, 1, 2, 3, 4, 5, 6, 7, 8, 9, 10, 11, 12], [12]), ([13, 14, 0, 1, 2, 3, 4, 5, 6, 7, 8, 9, 10, 11, 12, 13, 14], [13])]) [0, 1, 3, 7, 0, 16, 48, 112, 0, 496, 1023, 2047, 4095, 4095, 8191, 32767] (by kernel_rfl) (by kernel_rfl) (by kernel_rfl)
set_option maxRecDepth 100000 in
theorem logRead (w : World) (bl bd : Nat) (F : Nat → Prop) (size : Int) (d : Dk) (n : Int) (h : LogIs w bl bd F size false d) (ho : d.off = false) (hn : d.seen.length ≤ 8192) (hs0 : 0 ≤ size) (hs1 : size ≤ 8192) : Calls Try.prog 26 #[.pointer (some ⟨bl, 0, none⟩), .int .i64 n] w fun e w' => e = .returned (.tuple #[.string (bs (logReadV size d n).1), .int .i64 (logReadV size d n).2]) ∧ Below w.heap.size w w' := by
  obtain ⟨H, h1, h2, h3⟩ := h.disk
  have HOf := Lib.hid (doff w bd H d h1)
  rw [ho] at HOf
  have c0 := blk_cell h.blk 0
  have c1 := blk_cell h.blk 1
  have c2 := blk_cell h.blk 2
  have HB := Lib.hid (lblocks w bl bd F size false d h hn hs0 hs1)
  have HL := Lib.hid h
  have hN : (d.seen.length : Int) ≤ 8192 := by omega
  by_cases q : n < 0
  · have b1 : decide (n < 0) = true := decide_eq_true q
    have HR : Hid (logReadV size d n = ([], 1)) := Lib.hid (by unfold logReadV; rw [if_pos (.inl q)])
    clear h h1 ho
    go_enter Try.func26, Try.ntmps26
    go_wp2_with (go_at_call 36; (with_reducible refine (HOf.out).mono ?_); rintro e w1 ⟨rfl, rfl⟩)
    go_ret2
    exact ⟨by rw [HR.out]; rfl, Below.refl _ _⟩
  · have b1 : decide (n < 0) = false := decide_eq_false q
    by_cases q2 : (d.seen.length : Int) - size ≤ n
    · have b2 : decide ((d.seen.length : Int) - size ≤ n) = true := decide_eq_true q2
      have HR : Hid (logReadV size d n = ([], 1)) := Lib.hid (by unfold logReadV; rw [if_pos (.inr q2)])
      clear h h1 ho
      go_enter Try.func26, Try.ntmps26
      go_wp2_with (first
        | (go_at_call 36; (with_reducible refine (HOf.out).mono ?_); rintro e w1 ⟨rfl, rfl⟩)
        | (go_at_call 12; (with_reducible refine (HB.out).mono ?_); rintro e w2 ⟨rfl, hb⟩; have HBB := Lib.hid hb; clear hb))
      go_ret2
      exact ⟨by rw [HR.out]; rfl, HBB.out⟩
    · have b2 : decide ((d.seen.length : Int) - size ≤ n) = false := decide_eq_false q2
      have HR : Hid (logReadV size d n = (rdOf [] d.seen (size + n), 0)) := Lib.hid (by unfold logReadV; rw [if_neg (by omega)])
      have HD : Hid (d.read (size + n) = (rdOf [] d.seen (size + n), 0)) := Lib.hid (by
        unfold Dk.read
        rw [ho, show d.isb (size + n) = true by unfold Dk.isb; simp; omega]
        rfl)
      have g1 : 0 ≤ n := by omega
      have g2 : n < 8192 := by omega
      clear h h1 ho
      go_enter Try.func26, Try.ntmps26
      go_wp2_with (first
        | (go_at_call 36; (with_reducible refine (HOf.out).mono ?_); rintro e w1 ⟨rfl, rfl⟩)
        | (go_at_call 12; (with_reducible refine (HB.out).mono ?_); rintro e w2 ⟨rfl, hb⟩; have HBB := Lib.hid hb; clear hb))
      have hl2 := HL.out.below (below_drew HBB.out)
      have HL2 := Lib.hid hl2
      have x0 := blk_cell hl2.blk 0
      have x1 := blk_cell hl2.blk 1
      have HRd := Lib.hid (lread _ bl bd F size false d (size + n) hl2)
      rw [HD.out] at HRd
      clear hl2
      refine way_start (fun w' => w'.cell? ⟨bl, 1, none⟩ = some (.int .i64 size) ∧ w'.cell? ⟨bl, 0, none⟩ = some (.pointer (some ⟨bd, 0, none⟩))) plRead (by kernel_rfl) rfl (⟨x1, x0⟩) (fun hHeld => ?_)
      repeat (first
        | (refine way_pure (v := undef) (a' := ?_) plRead rfl rfl rfl (fun _ _ _ h => h) (Or.inr ⟨by rfl, rfl⟩) ?_ ?_; rotate_left; (· (simp only [aw]; rfl)))
        | (refine way_pure (v := ?_) (a' := ?_) plRead rfl rfl rfl (fun _ _ _ h => h) (Or.inl ⟨by rfl, ?_⟩) ?_ ?_; rotate_left; (· (intro w'; go_simp; with_reducible rfl)); rotate_left; (· (simp only [aw]; rfl)))
        | (refine way_take (v := ?_) (a' := ?_) plRead rfl rfl rfl (fun _ _ _ h => h) (Or.inl ⟨by rfl, ?_⟩) hHeld ?_ ?_; rotate_left; (· (rintro w' ⟨s0, s1⟩; go_simp; with_reducible rfl)); rotate_left; (· (simp only [aw]; rfl))))
      have hw : wrap64 (size + n) = size + n := by unfold wrap64; omega
      rw [hw]
      refine way_one plRead rfl rfl rfl (fun K hK => ?_)
      refine goes_ Try.func59 (by kernel_rfl) rfl #[.pointer (some ⟨bd, 0, none⟩), .int .i64 (size + n)] (by rfl) rfl rfl (by simp only [List.map_toArray, List.map_cons, List.map_nil]; rfl) ?_
      with_reducible refine (HRd.out).mono ?_
      rintro e w3 ⟨rfl, rfl⟩
      refine ⟨_, rfl, ?_⟩
      refine hK.out _ _ hHeld (fun hHeld => ?_)
      clear hK K
      refine way_norm (a' := ?_) ?_ ?_
      rotate_left
      · simp only [aw]
        rfl
      repeat (first
        | (refine way_pure (v := undef) (a' := ?_) plRead rfl rfl rfl (fun _ _ _ h => h) (Or.inr ⟨by rfl, rfl⟩) ?_ ?_; rotate_left; (· (simp only [aw]; rfl)))
        | (refine way_pure (v := ?_) (a' := ?_) plRead rfl rfl rfl (fun _ _ _ h => h) (Or.inl ⟨by rfl, ?_⟩) ?_ ?_; rotate_left; (· (intro w'; go_simp; with_reducible rfl)); rotate_left; (· (simp only [aw]; rfl)))
        | (refine way_take (v := ?_) (a' := ?_) plRead rfl rfl rfl (fun _ _ _ h => h) (Or.inl ⟨by rfl, ?_⟩) hHeld ?_ ?_; rotate_left; (· (rintro w' ⟨s0, s1⟩; go_simp; with_reducible rfl)); rotate_left; (· (simp only [aw]; rfl))))
      refine way_done plRead rfl (by decide) ?_
      have HM := Lib.hid (met_same _ bl bd F size d 0 HL2.out rfl)
      go_wp2_with (go_at_call 58; (with_reducible refine (HM.out).mono ?_); rintro e w4 ⟨rfl, rfl⟩)
      go_ret2
      exact ⟨by rw [HR.out]; rfl, below_drew HBB.out⟩
/-- Read, as the transaction sees it -/
def txReadV (size : Int) (d : Dk) (m : List (Int × List UInt8)) (n : Int) : List UInt8 × Int := match getW m n with
  | some t => (t, 0)
  | none => logReadV size d n
set_option maxRecDepth 100000 in
theorem txRead (w : World) (bt bm bl bd : Nat) (m : List (Int × List UInt8)) (F : Nat → Prop) (size : Int) (d : Dk) (n : Int) (ht : TxIs w bt bm bl m false) (h : LogIs w bl bd F size false d) (ho : d.off = false) (hn : d.seen.length ≤ 8192) (hs0 : 0 ≤ size) (hs1 : size ≤ 8192) (hw : (Lit.int .i64 n).wf = true) :
    Calls Try.prog 18 #[.pointer (some ⟨bt, 0, none⟩), .int .i64 n] w fun e w' => e = .returned (.tuple #[.string (bs (txReadV size d m n).1), .int .i64 (txReadV size d m n).2]) ∧ Below w.heap.size w w' := by
  have c0 := blk_cell ht.blk 0
  have c1 := blk_cell ht.blk 1
  have c2 := blk_cell ht.blk 2
  have hown := ht.own
  have z95 : Try.zeroCells95.size = 512 := by kernel_rfl
  cases q : getW m n with
  | some l =>
    have HX := Lib.hid (txD_at m n (.lit (.string (List.replicate 512 0))))
    have HH := Lib.hid (txD_has m n)
    rw [q] at HX HH
    have HR : Hid (txReadV size d m n = (l, 0)) := Lib.hid (by unfold txReadV; rw [q])
    clear ht h ho q
    go_enter Try.func18, Try.ntmps18
    go_wp2_with (at_lookup; refine wpList_lookup_own_ok _ rfl _ _ 91 rfl 3 95 intKey Try.underlying91 blkElem (zeroBlk _) (.lit (.string (List.replicate 512 0))) [] (blkElem_mk _ (by simp)) bm _ _ rfl hown _ (.int .i64 n) rfl (keyOf_int_mk Try.underlying3 hw) ?_; intro v ps hv; rw [HX.out] at hv; obtain ⟨hl, rfl, rfl⟩ := blkElem_inv hv; rw [HH.out]; obtain ⟨cs, hcs, hsz, hst, hcv⟩ := blk_facts l hl; rw [hcs]; clear hcs hl hv)
    go_ret2
    exact ⟨by rw [HR.out]; rfl, below_alloc (Below.refl _ _) _⟩
  | none =>
    have HX := Lib.hid (txD_at m n (.lit (.string (List.replicate 512 0))))
    have HH := Lib.hid (txD_has m n)
    rw [q] at HX HH
    have HR : Hid (txReadV size d m n = logReadV size d n) := Lib.hid (by unfold txReadV; rw [q])
    have HO := fun w1 (hb : Below w.heap.size w w1) => Lib.hid (logRead w1 bl bd F size d n (h.below hb) ho hn hs0 hs1)
    have c0' := fun o => (below_alloc (Below.refl _ _) o).cell (p := ⟨bt, 0, none⟩) (blk_lt ht.blk) |>.trans c0
    clear ht h ho q
    go_enter Try.func18, Try.ntmps18
    go_wp2_with (first
      | (at_lookup; refine wpList_lookup_own_ok _ rfl _ _ 91 rfl 3 95 intKey Try.underlying91 blkElem (zeroBlk _) (.lit (.string (List.replicate 512 0))) [] (blkElem_mk _ (by simp)) bm _ _ rfl hown _ (.int .i64 n) rfl (keyOf_int_mk Try.underlying3 hw) ?_; intro v ps hv; rw [HX.out] at hv; obtain ⟨hl, rfl, rfl⟩ := blkElem_inv hv; rw [HH.out]; obtain ⟨cs, hcs, hsz, hst, hcv⟩ := blk_facts _ hl; rw [hcs]; clear hcs hl hv)
      | (go_at_call 26; (with_reducible refine ((HO _ (below_alloc (Below.refl _ _) _)).out).mono ?_); rintro e w1 ⟨rfl, hb⟩))
    go_ret2
    exact ⟨by rw [HR.out]; rfl, (below_alloc (Below.refl _ _) _).trans (hb.mono (below_alloc (Below.refl _ _) _).size)⟩
end Go.Proofs.Ythijhmidmhgfaaa

set_option linter.unusedVariables false
set_option linter.unusedSimpArgs false
namespace Go.Proofs.Ythijhmidmhgfaaa
open Go.RowKit Go.Proofs.YthijhmidmhgfaaaW.PrintWords Go.Maps Go.ChangeMaps
end Go.Proofs.Ythijhmidmhgfaaa

set_option linter.unusedVariables false
set_option linter.unusedSimpArgs false
namespace Go.Proofs.Ythijhmidmhgfaaa
open Go.RowKit Go.Proofs.YthijhmidmhgfaaaW.PrintWords Go.Maps Go.ChangeMaps
theorem TxOn.below {w w1 : World} {bt bm bl bd n k : Nat} {D : DataW Unit} (h : TxOn w bt bm bl bd n k D) (hb : Below w.heap.size w w1) : TxOn w1 bt bm bl bd n k D := by
  obtain ⟨es, clock, hm, F, hs, hd⟩ := h.own
  exact ⟨(hb.block bt (Array.getElem?_eq_some_iff.1 h.blk).1).trans h.blk, ⟨es, clock, (hb.block bm (Array.getElem?_eq_some_iff.1 hm).1).trans hm, F, hs, hd⟩, h.log.below hb⟩
end Go.Proofs.Ythijhmidmhgfaaa

set_option linter.unusedVariables false
set_option linter.unusedSimpArgs false
namespace Go.Proofs.Ythijhmidmhgfaaa
open Go.RowKit Go.Proofs.YthijhmidmhgfaaaW.PrintWords Go.Maps Go.ChangeMaps
end Go.Proofs.Ythijhmidmhgfaaa

set_option linter.unusedVariables false
set_option linter.unusedSimpArgs false
namespace Go.Proofs.Ythijhmidmhgfaaa
open Go.RowKit Go.Proofs.YthijhmidmhgfaaaW.PrintWords Go.Maps Go.ChangeMaps
theorem copy_blk (l : List UInt8) (hl : l.length = 512) (w : World) :
    (Builtin.copy_ #[40, 9] 3 #[.slice (some ⟨w.heap.size, 0, none⟩) 512 512, .string (bs l)]).run Try.prog (w.alloc (.cells Try.zeroCells95 95)) = .ok (.int .i64 512) (w.alloc (.cells (l.map u8V).toArray 95)) := by
  have hs : (bs l).size = 512 := by rw [bs_size, hl]
  have hz : Try.zeroCells95.size = 512 := by kernel_rfl
  have h := Lib.run_copy_row_string (P := Try.prog) (w.alloc (.cells Try.zeroCells95 95)) 40 9 3 5 w.heap.size 0 512 512 (bs l) Try.zeroCells95 95 Try.underlying40 (by kernel_rfl) (heap_alloc_last w _) (by omega) (by omega)
  rw [h, World.setRow_alloc_new, hs, List.drop_of_length_le (by simp [hz]), show (bs l).data.toList = l by simp [bs], List.take_zero, List.nil_append, List.append_nil]
  rfl
end Go.Proofs.Ythijhmidmhgfaaa

set_option linter.unusedVariables false
set_option linter.unusedSimpArgs false
namespace Go.Proofs.Ythijhmidmhgfaaa
open Go.RowKit Go.Proofs.YthijhmidmhgfaaaW.PrintWords Go.Proofs.YthijhmidmhgfaaaW.PrintLast Go.Maps Go.ChangeMaps
theorem plPut : Plan (opsOf Try.f17 7) [6] [0, 1, 2, 4, 3, 5, 6] [0, 0, 0, 1, 0, 1, 3] := plan_mk (true, [([], []), ([0], [0]), ([1], [1]), ([2], [2]), ([], []), ([], []), ([3, 4, 5, 0, 1, 2, 3, 4, 5], [3, 4, 5])]) [0, 1, 3, 7, 0, 0, 63] (by kernel_rfl) (by kernel_rfl) (by kernel_rfl)
def TStep (w : World) (bt bm bl : Nat) (m : List (Int × List UInt8)) (ov : Bool) (r : Value) (e : Ending) (w' : World) : Prop := e = .returned r ∧ TxIs w' bt bm bl m ov ∧ Touch (fun k => k = bt ∨ k = bm) w w'
theorem wf_i64 (n : Int) (h0 : -9223372036854775808 ≤ n) (h1 : n ≤ 9223372036854775807) : (Lit.int .i64 n).wf = true := by
  have e1 : IntKind.i64.min = -9223372036854775808 := by decide
  have e2 : IntKind.i64.max = 9223372036854775807 := by decide
  show (decide (IntKind.i64.min ≤ n) && decide (n ≤ IntKind.i64.max)) = true
  rw [e1, e2, decide_eq_true h0, decide_eq_true h1]
  rfl
set_option maxRecDepth 100000 in
theorem txWrite (w : World) (bt bm bl bd : Nat) (m : List (Int × List UInt8)) (F : Nat → Prop) (size : Int) (d : Dk) (n : Int) (l : List UInt8) (ht : TxIs w bt bm bl m false) (h : LogIs w bl bd F size false d) (hn : d.seen.length ≤ 8192) (hs0 : 0 ≤ size) (hs1 : size ≤ 8192) (h0 : 0 ≤ n) (h1 : n < (d.seen.length : Int) - size) (hl : l.length = 512) (hm : m.length ≤ 1000000000) :
    Calls Try.prog 17 #[.pointer (some ⟨bt, 0, none⟩), .int .i64 n, .string (bs l)] w (TStep w bt bm bl (putW n l m) false (.int .i64 0)) := by
  have HB := Lib.hid (txblocks w bt bm bl bd m false F size false d ht h hn hs0 hs1)
  have HT := Lib.hid ht
  have c2 := blk_cell ht.blk 2
  have b1 : decide (n < 0) = false := decide_eq_false (by omega)
  have b2 : decide ((d.seen.length : Int) - size ≤ n) = false := decide_eq_false (by omega)
  have hsz : (bs l).size = 512 := by rw [bs_size, hl]
  have hcp := copy_blk l hl
  have hwf : (Lit.int .i64 n).wf = true := wf_i64 n (by omega) (by omega)
  have z95 : Try.zeroCells95.size = 512 := by kernel_rfl
  clear h ht
  go_enter Try.func17, Try.ntmps17
  go_wp2_with (go_at_call 25; (with_reducible refine (HB.out).mono ?_); rintro e w1 ⟨rfl, hb⟩; have HB1 := Lib.hid hb; clear hb)
  have ht2 := HT.out.below (below_drew1 (below_then HB1.out HB1.out.size (below_alloc (Below.refl _ _) (.cells (l.map u8V).toArray 95 (0, 0)))))
  have HT2 := Lib.hid ht2
  have x1 := blk_cell ht2.blk 1
  obtain ⟨w9, hrun, hown9, hturn⟩ := World.ownsMap.store ht2.own intKey Try.underlying91 (show m.length < maxLen by unfold maxLen; omega) (keyOf_int_mk Try.underlying3 hwf) (blkElem_mk l hl)
  clear ht2
  generalize hcs : (l.map u8V).toArray = cs at *
  have hcz : cs.size = 512 := by rw [← hcs]; simp [hl]
  have hcb : blkV l = .agg cs := by rw [← hcs]; rfl
  rw [hcb] at hrun
  have HRun := Lib.hid hrun
  have HO9 := Lib.hid hown9
  have HT9 := Lib.hid hturn
  clear hcs hrun hown9 hturn hcp
  refine way_start (fun w' => w'.cell? ⟨bt, 1, none⟩ = some (.map (some bm)) ∧ w'.heap[w1.heap.size]? = some (.cells cs 95 (0, 0))) plPut (by kernel_rfl) rfl (⟨x1, blk_new w1 _⟩) (fun hHeld => ?_)
  repeat (first
    | (refine way_pure (v := undef) (a' := ?_) plPut rfl rfl rfl (fun _ _ _ h => h) (Or.inr ⟨by rfl, rfl⟩) ?_ ?_; rotate_left; (· (simp only [aw]; rfl)))
    | (refine way_pure (v := ?_) (a' := ?_) plPut rfl rfl rfl (fun _ _ _ h => h) (Or.inl ⟨by rfl, ?_⟩) ?_ ?_; rotate_left; (· (intro w'; go_simp; with_reducible rfl)); rotate_left; (· (simp only [aw]; rfl)))
    | (refine way_take (v := ?_) (a' := ?_) plPut rfl rfl rfl (fun _ _ _ h => h) (Or.inl ⟨by rfl, ?_⟩) hHeld ?_ ?_; rotate_left; (· (rintro w' ⟨s0, s1⟩; go_simp; with_reducible rfl)); rotate_left; (· (simp only [aw]; rfl))))
  refine way_take (v := .agg cs) (a' := ?_) plPut rfl rfl rfl (fun _ _ _ h => h) (Or.inl ⟨by rfl, fun w' hs => exec_load_row 95 (.tmp 7) rfl w1.heap.size rfl 95 cs (0, 0) _ hs.2 Try.underlying95 rfl (by rw [hcz]; exact infoBlk)⟩) hHeld ?_ ?_
  rotate_left
  · simp only [aw]
    rfl
  refine way_last plPut rfl rfl rfl (fun K hK => ?_)
  refine skip_ (w1 := w9) (by rfl) rfl (exec_map_update 91 (.tmp 31) (.tmp 32) (.tmp 33) rfl rfl rfl rfl HRun.out) ?_
  refine hK.out _ _ ?_
  clear hK K
  refine way_done plPut rfl (by decide) ?_
  go_wp2
  go_ret
  have hg := HT9.out.grown
  have hne : bt ≠ bm := HT.out.ne
  have t1 : Touch (fun k => k = bt ∨ k = bm) w (w1.alloc (.cells cs 95 (0, 0))).drew := Touch.of (below_drew (below_then HB1.out HB1.out.size (below_alloc (Below.refl _ _) _)))
  have hm9 := ownsMap_tight HO9.out
  rw [txD_put] at hm9
  refine ⟨rfl, ⟨blk_grown HT2.out.blk hg (by simpa using hne), ?_⟩, t1.grown hg (fun k hk => .inl (.inr (by injection hk with hk; exact hk.symm)))⟩
  have e : Maps.size (txD (putW n l m)) = (putW n l m).length := by show (List.map _ _).length = _; rw [List.length_map]
  rwa [e] at hm9
end Go.Proofs.Ythijhmidmhgfaaa
