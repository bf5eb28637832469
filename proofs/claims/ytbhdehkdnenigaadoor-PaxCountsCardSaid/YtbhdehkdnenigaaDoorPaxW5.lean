/- Walks: cofferref04.Read at every place; pax.need; strings.Cut at the byte 61. -/
import Derived.Test.YtbhdehkdnenigaaDoorPaxW4
import Derived.Recover
set_option linter.unusedVariables false
set_option linter.unusedSimpArgs false
namespace Go.Proofs.YtbhdehkdnenigaaDoor
open Go.RowKit
attribute [local go_sem] bs_size bs_append bs_extract take_drop_len bs_toList

theorem refRead_any (l : List UInt8) (a : Int) (w : World) (hs : l.length ≤ 1125899906842624) : Calls Tryd.prog 12 #[.string (bs l), .int .i64 a] w fun e w' => e = .returned (readAny l a Pax.readRef) ∧ Below w.heap.size w w' := by
  by_cases c1 : a < 0
  · have b1 : decide (a < 0) = true := by simp; omega
    have HR : Hid (readAny l a Pax.readRef = .tuple #[.string (bs []), .string (bs []), .int .i64 0, .int .i64 1]) := by simp [Hid, readAny, c1]
    go_enter Tryd.func12, Tryd.ntmps12
    go_wp2
    refine bodyPost_ret (results_tmp4 rfl _ _ _) rfl ?_
    rw [HR.out]
    exact ⟨rfl, Below.refl _ _⟩
  have b1 : decide (a < 0) = false := by simp; omega
  by_cases c2 : (l.length : Int) < a
  · have b2 : decide ((l.length : Int) < a) = true := by simp; omega
    have HR : Hid (readAny l a Pax.readRef = .tuple #[.string (bs []), .string (bs []), .int .i64 0, .int .i64 1]) := by simp [Hid, readAny, c2]
    go_enter Tryd.func12, Tryd.ntmps12
    go_wp2
    refine bodyPost_ret (results_tmp4 rfl _ _ _) rfl ?_
    rw [HR.out]
    exact ⟨rfl, Below.refl _ _⟩
  have b2 : decide ((l.length : Int) < a) = false := by simp; omega
  by_cases c3 : a = l.length
  · have b3 : (a == (l.length : Int)) = true := by simp [c3]
    have HR : Hid (readAny l a Pax.readRef = .tuple #[.string (bs []), .string (bs []), .int .i64 0, .int .i64 5]) := by simp [Hid, readAny, c3]
    clear c3
    go_enter Tryd.func12, Tryd.ntmps12
    go_wp2
    refine bodyPost_ret (results_tmp4 rfl _ _ _) rfl ?_
    rw [HR.out]
    exact ⟨rfl, Below.refl _ _⟩
  · obtain ⟨n, rfl⟩ := Int.eq_ofNat_of_zero_le (show 0 ≤ a by omega)
    have HR : readAny l n Pax.readRef = readRes (Pax.readRef (l.drop n)) n := by simp [readAny, c1, c2, c3]
    rw [HR]
    exact refRead_in l n w hs (by omega)

def noneChain : List PanicEntry := [{ v := .iface 44 (.agg #[]), recovered := false }]
theorem need_true (w : World) : Calls Tryd.prog 30 #[.bool true] w fun e w' => e = .returned (.tuple #[]) ∧ w = w' := by
  go_enter Tryd.func30, Tryd.ntmps30
  go_wp2
  go_end0
  exact ⟨rfl, rfl⟩
theorem need_false (w : World) : Calls Tryd.prog 30 #[.bool false] w fun e w' => e = .panicked noneChain ∧ w = w' := by
  go_enter Tryd.func30, Tryd.ntmps30
  go_wp2
  exact ⟨rfl, rfl, rfl⟩

def CutRes2 (l : List UInt8) (c : UInt8) (w : World) (e : Ending) (w' : World) : Prop :=
  (∃ n, w' = w.drewN n) ∧ match Pax.cut1 c l with
    | some (a, b) => e = .returned (.tuple #[.string (bs a), .string (bs b), .bool true])
    | none => e = .returned (.tuple #[.string (bs l), .string (bs []), .bool false])
theorem indexByte_cut (c : UInt8) : ∀ l : List UInt8, match Pax.cut1 c l with
    | some (a, b) => Lib.indexByte l c = (a.length : Int) ∧ a = l.take a.length ∧ b = l.drop (a.length + 1) ∧ a.length < l.length
    | none => Lib.indexByte l c = -1
  | [] => rfl
  | x :: r => by
    have ih := indexByte_cut c r
    unfold Pax.cut1 Lib.indexByte
    by_cases hx : x = c
    · simp [hx]
    · rw [if_neg hx]
      have hx' : (x == c) = false := by simp [hx]
      rw [hx']
      cases h : Pax.cut1 c r with
      | none =>
        rw [h] at ih
        simp only at ih
        simp [ih]
      | some p =>
        obtain ⟨a, b⟩ := p
        rw [h] at ih
        simp only at ih ⊢
        obtain ⟨h1, h2, h3, h4⟩ := ih
        have hne : ((a.length : Int) == -1) = false := beq_eq_false_iff_ne.2 (by omega)
        refine ⟨by simp [h1, hne], ?_, ?_, ?_⟩
        · simpa using h2
        · simpa using h3
        · simpa using h4
set_option maxHeartbeats 400000 in
theorem slCut_any (l : List UInt8) (w : World) (hs : l.length ≤ 1125899906842624) : Calls Tryd.prog 36 #[.string (bs l), .string (bs [61])] w (CutRes2 l 61 w) := by
  have hi := Tryd.stringslite_Index_one (bs l) 61 w
  rw [bs_data] at hi
  have hc := indexByte_cut 61 l
  cases h : Pax.cut1 61 l with
  | none =>
    rw [h] at hc
    simp only at hc
    rw [hc] at hi
    have HI : Hid (Calls Tryd.prog 47 #[.string (bs l), .string (bs [61])] w fun e w' => e = .returned (.int .i64 (-1)) ∧ w' = w) := hi
    have HP : Hid (∀ w', (∃ n, w' = w.drewN n) → CutRes2 l 61 w (.returned (.tuple #[.string (bs l), .string (bs []), .bool false])) w') := fun w' hw => ⟨hw, by rw [h]⟩
    clear hi hc h
    go_enter Tryd.func36, Tryd.ntmps36
    go_wp2_with (go_at_call 47; refine HI.out.mono ?_; rintro e w' ⟨rfl, rfl⟩)
    go_ret3
    exact HP.out _ ⟨0, rfl⟩
  | some p =>
    obtain ⟨a, b⟩ := p
    rw [h] at hc
    simp only at hc
    obtain ⟨h1, h2, h3, h4⟩ := hc
    rw [h1] at hi
    generalize a.length = k at *
    subst h2
    subst h3
    have HI : Hid (Calls Tryd.prog 47 #[.string (bs l), .string (bs [61])] w fun e w' => e = .returned (.int .i64 (k : Int)) ∧ w' = w) := hi
    have HP : Hid (∀ w', (∃ n, w' = w.drewN n) → CutRes2 l 61 w (.returned (.tuple #[.string (bs (l.take k)), .string (bs (l.drop (k + 1))), .bool true])) w') := fun w' hw => ⟨hw, by rw [h]⟩
    have q1 : decide ((k : Int) ≤ (l.length : Int)) = true := by simp; omega
    have q2 : decide ((k : Int) + 1 ≤ (l.length : Int)) = true := by simp; omega
    have q3 : decide ((0 : Int) ≤ (k : Int) + 1) = true := by simp; omega
    have q4 : ((k : Int) + 1).toNat = k + 1 := by omega
    clear hi h h1
    go_enter Tryd.func36, Tryd.ntmps36
    go_wp2_with (go_at_call 47; refine HI.out.mono ?_; rintro e w' ⟨rfl, rfl⟩)
    go_quiet (fail)
    go_wp2
    go_ret3
    exact HP.out _ ⟨_, rfl⟩
set_option maxHeartbeats 400000 in
theorem strCut_any (l : List UInt8) (w : World) (hs : l.length ≤ 1125899906842624) : Calls Tryd.prog 31 #[.string (bs l), .string (bs [61])] w fun e w' => (∃ n, w' = w.drewN n) ∧ e = .returned (match Pax.cut1 61 l with
    | some (a, b) => .tuple #[.string (bs a), .string (bs b), .bool true]
    | none => .tuple #[.string (bs l), .string (bs []), .bool false]) := by
  have hi := slCut_any l w hs
  cases h : Pax.cut1 61 l with
  | none =>
    have HI : Hid (Calls Tryd.prog 36 #[.string (bs l), .string (bs [61])] w fun e w' => (∃ n, w' = w.drewN n) ∧ e = .returned (.tuple #[.string (bs l), .string (bs []), .bool false])) := hi.mono fun e w' ⟨h1, h2⟩ => ⟨h1, by rw [h] at h2; exact h2⟩
    clear hi h
    go_enter Tryd.func31, Tryd.ntmps31
    go_wp2_with (go_at_call 36; refine HI.out.mono ?_; rintro e w' ⟨⟨n, rfl⟩, rfl⟩)
    go_ret3
    exact ⟨⟨_, rfl⟩, rfl⟩
  | some p =>
    obtain ⟨a, b⟩ := p
    have HI : Hid (Calls Tryd.prog 36 #[.string (bs l), .string (bs [61])] w fun e w' => (∃ n, w' = w.drewN n) ∧ e = .returned (.tuple #[.string (bs a), .string (bs b), .bool true])) := hi.mono fun e w' ⟨h1, h2⟩ => ⟨h1, by rw [h] at h2; exact h2⟩
    clear hi h
    go_enter Tryd.func31, Tryd.ntmps31
    go_wp2_with (go_at_call 36; refine HI.out.mono ?_; rintro e w' ⟨⟨n, rfl⟩, rfl⟩)
    go_ret3
    exact ⟨⟨_, rfl⟩, rfl⟩
end Go.Proofs.YtbhdehkdnenigaaDoor
