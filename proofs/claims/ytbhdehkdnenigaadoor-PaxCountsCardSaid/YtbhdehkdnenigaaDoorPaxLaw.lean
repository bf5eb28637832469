/- The two readers of records are one: plain lists of bytes. -/
import Derived.Test.YtbhdehkdnenigaaDoorPaxW6
set_option linter.unusedVariables false
set_option linter.unusedSimpArgs false
namespace Go.Proofs.YtbhdehkdnenigaaDoor
namespace Pax
theorem lenD_ok {n : Nat} (hn : n + 30 < 18446744073709551616) : ∀ f d, d + f = 25 → d ≤ (dec (n + d)).length → (dec (n + lenD n f d)).length = lenD n f d
  | 0, d, h, h1 => by
    have := dec_len_le (n := n + d) (by omega)
    omega
  | f + 1, d, h, h1 => by
    by_cases e : (dec (n + d)).length = d
    · rw [lenD_hit e]; exact e
    · rw [lenD_miss e]
      exact lenD_ok hn f (d + 1) (by omega) (dec_room h1 e).1
theorem lenOf_ok {n : Nat} (hn : n + 30 < 18446744073709551616) : (dec (lenOf n)).length + n = lenOf n := by
  have := lenD_ok hn 24 1 rfl (dec_len_pos _)
  unfold lenOf
  omega
theorem text_length (n : Nat) (k v : List UInt8) : (text n k v).length = (dec n).length + (k.length + v.length + 3) := by
  simp [text]; omega
/-- A record: what it says, and that it is one. -/
structure Rec (s k v : List UInt8) (n : Nat) : Prop where
  e : writeE k v = 0
  t : write k v = s.take n
  l : n ≤ s.length
theorem Rec.key {s k v : List UInt8} {n : Nat} (h : Rec s k v n) : isKey k = true := by
  have := h.e
  unfold writeE at this
  split at this
  · assumption
  · cases this
theorem Rec.text {s k v : List UInt8} {n : Nat} (h : Rec s k v n) (hb : s.length ≤ 1125899906842624) : n = lenOf (k.length + v.length + 3) ∧ n ≤ 1048576 ∧ s.take n = Pax.text n k v ∧ (dec n).length + (k.length + v.length + 3) = n := by
  have he := h.e
  have ht := h.t
  have hk := h.key
  unfold writeE at he
  unfold write at ht
  rw [if_pos hk] at he ht
  split at he
  · cases he
  · rename_i h1
    rw [if_neg h1] at ht
    have hlen := lenOf_bound (k.length + v.length + 3)
    have hn := lenOf_ok (n := k.length + v.length + 3) (by omega)
    have hl := congrArg List.length ht
    rw [text_length, List.length_take, Nat.min_eq_left h.l] at hl
    have e : n = lenOf (k.length + v.length + 3) := by omega
    subst e
    exact ⟨rfl, by omega, ht.symm, by omega⟩
theorem readRef_rec {s k v : List UInt8} {n : Nat} (h : readRef s = some (k, v, n)) : Rec s k v n := by
  unfold readRef at h
  split at h
  · cases h
  · rename_i hc
    unfold readAt at h
    split at h
    · cases h
    · rename_i k' v' hcut
      split at h
      · rename_i hw
        simp only [Option.some.injEq, Prod.mk.injEq] at h
        obtain ⟨rfl, rfl, rfl⟩ := h
        exact ⟨hw.1, hw.2, by omega⟩
      · cases h
theorem readProg_rec {s k v : List UInt8} {n : Nat} (h : readProg s = some (k, v, n)) : Rec s k v n := by
  unfold readProg at h
  split at h
  · cases h
  · split at h
    · cases h
    · unfold readD at h
      split at h
      · rename_i hc
        unfold readTail at h
        split at h
        · cases h
        · split at h
          · rename_i hw
            simp only [Option.some.injEq, Prod.mk.injEq] at h
            obtain ⟨rfl, rfl, rfl⟩ := h
            exact ⟨hw.2.1, hw.2.2, hc.2.2⟩
          · cases h
      · cases h
theorem b8_digit (m : Nat) : (b8 (48 + (m : Int) % 10)).toNat = 48 + m % 10 := by
  unfold b8
  rw [UInt8.toNat_ofNat']
  omega
theorem dec_digits (n : Nat) : (dec n).all isDig = true ∧ val (dec n) = n := by
  induction n using Nat.strongRecOn with
  | _ n ih =>
    by_cases h : n < 10
    · rw [dec_small h]
      have := b8_digit n
      simp [isDig, val]
      omega
    · rw [dec_big h]
      have := b8_digit n
      have h2 := ih (n / 10) (by omega)
      rw [List.all_append, h2.1, val_snoc, h2.2, this]
      simp [isDig, this]
      omega
theorem numTo_run : ∀ (ds r : List UInt8) (a i : Nat), ds.all isDig = true → i + ds.length ≤ 8 → numTo 8 (ds ++ 32 :: r) a i = (ds.foldl (fun a c => 10 * a + (c.toNat - 48)) a, i + ds.length)
  | [], r, a, i, _, _ => by
    rw [List.nil_append, numTo, if_neg (by rintro ⟨_, h, _⟩; revert h; decide)]
    rfl
  | c :: ds, r, a, i, h, hi => by
    simp only [List.all_cons, Bool.and_eq_true, isDig, decide_eq_true_eq] at h
    simp only [List.length_cons] at hi ⊢
    rw [List.cons_append, numTo, if_pos ⟨by omega, h.1⟩, numTo_run ds r _ _ h.2 (by omega)]
    simp only [List.foldl_cons, Prod.mk.injEq, true_and]
    omega
theorem Rec.split {s k v : List UInt8} {n : Nat} (h : Rec s k v n) (hb : s.length ≤ 1125899906842624) : s = Pax.text n k v ++ s.drop n := by
  rw [← (h.text hb).2.2.1, List.take_append_drop]
theorem not_mem_key {k : List UInt8} (h : isKey k = true) : (61 : UInt8) ∉ k := by
  intro hm
  simp only [isKey, Bool.and_eq_true, Bool.not_eq_true'] at h
  rw [List.any_eq_false] at h
  have := h.2 61 hm
  simp at this
theorem dec_le7 {n : Nat} (h : n ≤ 1048576) : (dec n).length ≤ 7 := by
  rw [dec_length]
  have := nDigits_mono h
  have e : Lib.nDigits 1048576 = 7 := Lib.nDigits_unique 6 1048576 (by decide) (by decide)
  omega
theorem rec_readRef {s k v : List UInt8} {n : Nat} (h : Rec s k v n) (hb : s.length ≤ 1125899906842624) : readRef s = some (k, v, n) := by
  obtain ⟨h1, h2, h3, h4⟩ := h.text hb
  have h7 := dec_le7 h2
  have hd := dec_digits n
  have hs : s = dec n ++ 32 :: (k ++ 61 :: (v ++ [10]) ++ s.drop n) := by
    conv => lhs; rw [h.split hb]
    simp [Pax.text]
  have hnum : num s = (n, (dec n).length) := by
    rw [num, hs, numTo_run _ _ _ _ hd.1 (by omega)]
    have := hd.2
    unfold val at this
    rw [this]
    simp
  have hp := dec_len_pos n
  unfold readRef
  rw [hnum, if_neg (by simp only; have := h.l; omega)]
  unfold readAt
  have e : ((s.take n).drop ((dec n).length + 1)).take (n - 1 - ((dec n).length + 1)) = k ++ 61 :: v := by
    rw [h3, Pax.text, show dec n ++ 32 :: (k ++ 61 :: (v ++ [10])) = (dec n ++ [32]) ++ ((k ++ 61 :: v) ++ [10]) from by simp]
    rw [List.drop_append_of_le_length (by simp), List.drop_of_length_le (by simp), List.nil_append]
    rw [List.take_append_of_le_length (by simp; omega)]
    exact List.take_of_length_le (by simp; omega)
  rw [e, cut1_mk _ (not_mem_key h.key)]
  simp only
  rw [if_pos ⟨h.e, h.t⟩]
theorem rec_readProg {s k v : List UInt8} {n : Nat} (h : Rec s k v n) (hb : s.length ≤ 1125899906842624) : readProg s = some (k, v, n) := by
  obtain ⟨h1, h2, h3, h4⟩ := h.text hb
  have h7 := dec_le7 h2
  have hd := dec_digits n
  have hs : s = dec n ++ 32 :: (k ++ 61 :: (v ++ [10]) ++ s.drop n) := by
    conv => lhs; rw [h.split hb]
    simp [Pax.text]
  have hp := dec_len_pos n
  have hcut : cut1 32 (s.take 8) = some (dec n, (k ++ 61 :: (v ++ [10]) ++ s.drop n).take (8 - ((dec n).length + 1))) := by
    have e : s.take 8 = dec n ++ 32 :: (k ++ 61 :: (v ++ [10]) ++ s.drop n).take (8 - ((dec n).length + 1)) := by
      conv => lhs; rw [hs]
      rw [List.take_append, List.take_of_length_le (by omega), show 8 - (dec n).length = 8 - ((dec n).length + 1) + 1 from by omega, List.take_succ_cons]
    rw [e]
    refine cut1_mk _ fun hm => ?_
    have := List.all_eq_true.1 hd.1 32 hm
    revert this
    decide
  have ht : s.take (dec n).length = dec n := by
    conv => lhs; rw [hs]
    rw [List.take_append_of_le_length (Nat.le_refl _), List.take_of_length_le (Nat.le_refl _)]
  unfold readProg
  rw [hcut]
  simp only
  rw [if_neg (by omega)]
  unfold readD
  rw [ht, hd.2, if_pos ⟨hd.1, by omega, h.l⟩]
  unfold readTail
  have e : (s.drop ((dec n).length + 1)).take (n - ((dec n).length + 1)) = k ++ 61 :: (v ++ [10]) := by
    rw [← List.drop_take, h3, Pax.text, show dec n ++ 32 :: (k ++ 61 :: (v ++ [10])) = (dec n ++ [32]) ++ (k ++ 61 :: (v ++ [10])) from by simp]
    rw [List.drop_append_of_le_length (by simp), List.drop_of_length_le (by simp), List.nil_append]
  rw [e, cut1_mk _ (not_mem_key h.key)]
  have e2 : (v ++ [10]).take ((v ++ [10]).length - 1) = v := by simp
  simp only [e2]
  rw [if_pos ⟨by simp [Lib.hasSuffix, List.isSuffixOf], h.e, h.t⟩]
theorem read_eq {s : List UInt8} (hb : s.length ≤ 1125899906842624) : readProg s = readRef s := by
  cases h : readProg s with
  | some p =>
    obtain ⟨k, v, n⟩ := p
    exact (rec_readRef (readProg_rec h) hb).symm
  | none =>
    cases h' : readRef s with
    | none => rfl
    | some p =>
      obtain ⟨k, v, n⟩ := p
      rw [rec_readProg (readRef_rec h') hb] at h
      cases h
theorem Rec.unique {s k v k' v' : List UInt8} {n n' : Nat} (h : Rec s k v n) (h' : Rec s k' v' n') (hb : s.length ≤ 1125899906842624) : k = k' ∧ v = v' ∧ n = n' := by
  have e := (rec_readProg h hb).symm.trans (rec_readProg h' hb)
  simpa using e
theorem Rec.more {s t k v : List UInt8} {n : Nat} (h : Rec s k v n) : Rec (s ++ t) k v n :=
  ⟨h.e, by rw [List.take_append_of_le_length h.l]; exact h.t, by rw [List.length_append]; exact Nat.le_trans h.l (Nat.le_add_right _ _)⟩
/-- What Write tells is a record. -/
theorem rec_write {k v : List UInt8} (h : writeE k v = 0) : Rec (write k v) k v (write k v).length := ⟨h, by rw [List.take_length], Nat.le_refl _⟩
theorem write_bad {k v : List UInt8} (h : writeE k v ≠ 0) : write k v = [] ∧ (writeE k v = 1 ∧ isKey k = false ∨ writeE k v = 3 ∧ isKey k = true ∧ 1048576 < lenOf (k.length + v.length + 3)) := by
  unfold writeE write at *
  split
  · rename_i hk
    rw [if_pos hk] at h
    split
    · rename_i h1
      exact ⟨rfl, .inr ⟨rfl, hk, h1⟩⟩
    · rename_i h1
      rw [if_neg h1] at h
      exact absurd rfl h
  · rename_i hk
    exact ⟨rfl, .inl ⟨rfl, by simpa using hk⟩⟩
theorem lenD_le {n : Nat} (e : Nat) (he : (dec (n + e)).length ≤ e) : ∀ f d, d ≤ (dec (n + d)).length → d ≤ e → e < d + f → lenD n f d ≤ e
  | 0, d, _, _, h => by omega
  | f + 1, d, h1, h2, h3 => by
    by_cases c : (dec (n + d)).length = d
    · rw [lenD_hit c]; exact h2
    · rw [lenD_miss c]
      have hr := dec_room h1 c
      have : d ≠ e := by
        rintro rfl
        omega
      exact lenD_le e he f (d + 1) hr.1 (by omega) (by omega)
theorem lenOf_small {n : Nat} (h : n ≤ 1048569) : lenOf n ≤ n + 7 := by
  have := lenD_le (n := n) 7 (dec_le7 (by omega)) 24 1 (dec_len_pos _) (by omega) (by omega)
  unfold lenOf
  omega
theorem long_of {n : Nat} (h : 1048576 < lenOf n) : 1048570 ≤ n := by
  rcases Nat.lt_or_ge n 1048570 with h1 | h1
  · have := lenOf_small (n := n) (by omega)
    omega
  · exact h1
end Pax
end Go.Proofs.YtbhdehkdnenigaaDoor
