/- The records of layer 4, as plain functions on lists of bytes. -/
import Derived.Lib.ItoaLen
import Derived.Lib.Strings
set_option linter.unusedVariables false
set_option linter.unusedSimpArgs false
namespace Go.Proofs.YtbhdehkdnenigaaDoor
namespace Pax
def isKey (s : List UInt8) : Bool := !s.isEmpty && !s.any (fun c => c == 61 || c == 10)
def dec (n : Nat) : List UInt8 := Lib.decDigits n
def lenD (n : Nat) : Nat → Nat → Nat
  | 0, d => d
  | f + 1, d => if (dec (n + d)).length = d then d else lenD n f (d + 1)
def lenOf (n : Nat) : Nat := n + lenD n 24 1
def text (n : Nat) (k v : List UInt8) : List UInt8 := dec n ++ 32 :: (k ++ 61 :: (v ++ [10]))
def write (k v : List UInt8) : List UInt8 := if isKey k then (if 1048576 < lenOf (k.length + v.length + 3) then [] else text (lenOf (k.length + v.length + 3)) k v) else []
def writeE (k v : List UInt8) : Int := if isKey k then (if 1048576 < lenOf (k.length + v.length + 3) then 3 else 0) else 1
/-- what the first digits say, at most 'most' of them in all, and how many they are -/
def numTo (most : Nat) : List UInt8 → Nat → Nat → Nat × Nat
  | [], n, i => (n, i)
  | c :: r, n, i => if i < most ∧ 48 ≤ c.toNat ∧ c.toNat ≤ 57 then numTo most r (10 * n + (c.toNat - 48)) (i + 1) else (n, i)
def num (s : List UInt8) : Nat × Nat := numTo 8 s 0 0
/-- ahead of the first c, and behind it -/
def cut1 (c : UInt8) : List UInt8 → Option (List UInt8 × List UInt8)
  | [] => none
  | x :: r => if x = c then some ([], r) else match cut1 c r with
    | some (a, b) => some (x :: a, b)
    | none => none
def readAt (s : List UInt8) (n d : Nat) : Option (List UInt8 × List UInt8 × Nat) :=
  match cut1 61 (((s.take n).drop (d + 1)).take (n - 1 - (d + 1))) with
  | none => none
  | some (k, v) => if writeE k v = 0 ∧ write k v = s.take n then some (k, v, n) else none
def readRef (s : List UInt8) : Option (List UInt8 × List UInt8 × Nat) :=
  if (num s).2 = 0 ∨ (num s).1 < (num s).2 + 2 ∨ s.length < (num s).1 then none else readAt s (num s).1 (num s).2
def isDig (c : UInt8) : Bool := decide (48 ≤ c.toNat) && decide (c.toNat ≤ 57)
def val (ds : List UInt8) : Nat := ds.foldl (fun a c => 10 * a + (c.toNat - 48)) 0
def readTail (s : List UInt8) (n d : Nat) : Option (List UInt8 × List UInt8 × Nat) :=
  match cut1 61 ((s.drop (d + 1)).take (n - (d + 1))) with
  | none => none
  | some (k, v) => if Lib.hasSuffix v [10] = true ∧ writeE k (v.take (v.length - 1)) = 0 ∧ write k (v.take (v.length - 1)) = s.take n then some (k, v.take (v.length - 1), n) else none
def readD (s : List UInt8) (d : Nat) : Option (List UInt8 × List UInt8 × Nat) :=
  if (s.take d).all isDig = true ∧ d < val (s.take d) ∧ val (s.take d) ≤ s.length then readTail s (val (s.take d)) d else none
def readProg (s : List UInt8) : Option (List UInt8 × List UInt8 × Nat) :=
  match cut1 32 (s.take 8) with
  | none => none
  | some (ds, _) => if ds.length = 0 then none else readD s ds.length
theorem cut1_some {c : UInt8} : ∀ {s a b : List UInt8}, cut1 c s = some (a, b) → s = a ++ c :: b ∧ c ∉ a
  | [], a, b, h => by simp [cut1] at h
  | x :: r, a, b, h => by
    unfold cut1 at h
    split at h
    · rename_i hx
      obtain ⟨rfl, rfl⟩ : [] = a ∧ r = b := by simpa using h
      simp [hx]
    · rename_i hx
      split at h
      · rename_i a' b' h'
        obtain ⟨rfl, rfl⟩ : x :: a' = a ∧ b' = b := by simpa using h
        obtain ⟨h1, h2⟩ := cut1_some h'
        refine ⟨by rw [h1]; rfl, ?_⟩
        simp only [List.mem_cons, not_or]
        exact ⟨fun e => hx e.symm, h2⟩
      · cases h
theorem cut1_none {c : UInt8} : ∀ {s : List UInt8}, cut1 c s = none → c ∉ s
  | [], _ => by simp
  | x :: r, h => by
    unfold cut1 at h
    split at h
    · cases h
    · rename_i hx
      split at h
      · cases h
      · rename_i h'
        simp only [List.mem_cons, not_or]
        exact ⟨fun e => hx e.symm, cut1_none h'⟩
theorem cut1_mk {c : UInt8} : ∀ {a : List UInt8} (b : List UInt8), c ∉ a → cut1 c (a ++ c :: b) = some (a, b)
  | [], b, _ => by simp [cut1]
  | x :: r, b, h => by
    simp only [List.mem_cons, not_or] at h
    rw [List.cons_append]
    unfold cut1
    rw [if_neg (fun e => h.1 e.symm), cut1_mk b h.2]
theorem cut1_at {c : UInt8} {s : List UInt8} {k : Nat} (h : k < s.length) (h1 : s[k] = c) (h0 : c ∉ s.take k) : cut1 c s = some (s.take k, s.drop (k + 1)) := by
  have e : s = s.take k ++ c :: s.drop (k + 1) := by
    conv => lhs; rw [← List.take_append_drop k s, List.drop_eq_getElem_cons h, h1]
  conv => lhs; rw [e]
  exact cut1_mk _ h0
theorem cut1_no {c : UInt8} {s : List UInt8} (h0 : c ∉ s) : cut1 c s = none := by
  cases h : cut1 c s with
  | none => rfl
  | some p =>
    obtain ⟨a, b⟩ := p
    have := cut1_some h
    rw [this.1] at h0
    simp at h0
end Pax
end Go.Proofs.YtbhdehkdnenigaaDoor
