/- Walks: cofferref04.number, cut and Read. -/
import Derived.Test.YtbhdehkdnenigaaDoorPaxW3
set_option linter.unusedVariables false
set_option linter.unusedSimpArgs false
namespace Go.Proofs.YtbhdehkdnenigaaDoor
open Go.RowKit
attribute [local go_sem] bs_size bs_append bs_extract take_drop_len bs_toList

theorem numTo_stop {s : List UInt8} {n i : Nat} (h : ∀ c r, s = c :: r → ¬ (i < 8 ∧ 48 ≤ c.toNat ∧ c.toNat ≤ 57)) : Pax.numTo 8 s n i = (n, i) := by
  cases s with
  | nil => rfl
  | cons c r => rw [Pax.numTo, if_neg (h c r rfl)]
theorem data_drop {s : ByteArray} {k : Nat} (h : k < s.size) : s.data.toList.drop k = s[k] :: s.data.toList.drop (k + 1) := by
  rw [List.drop_eq_getElem_cons (by simpa using h)]
  rfl
set_option maxHeartbeats 400000 in
theorem number_any (s : ByteArray) (w : World) (hs : s.size ≤ 1125899906842624) : Calls Tryd.prog 25 #[.string s] w fun e w' => e = .returned (.tuple #[.int .i64 ((Pax.num s.data.toList).1 : Nat), .int .i64 ((Pax.num s.data.toList).2 : Nat)]) ∧ w = w' := by
  go_enter Tryd.func25, Tryd.ntmps25
  go_wp2
  go_loop [4, 5] (fun n i => ∃ k m : Nat, k ≤ s.size ∧ k ≤ 8 ∧ Hid (m < 10 ^ k) ∧ i = .int .i64 k ∧ n = .int .i64 m ∧ Hid (Pax.num s.data.toList = Pax.numTo 8 (s.data.toList.drop k) m k)) (fun _ i => 8 - (intOf i).toNat)
  case atStart => exact ⟨0, 0, Nat.zero_le _, by omega, by simp [Hid], rfl, rfl, rfl⟩
  case round =>
    obtain ⟨k, m, h1, h2, H3, rfl, rfl, HN⟩ := hrel
    have hm : m < 100000000 := by
      have hp : 10 ^ k ≤ 10 ^ 8 := Nat.pow_le_pow_right (by omega) h2
      have := H3.out
      omega
    by_cases hlt : k < s.size
    · have b1 : decide ((k : Int) < (s.size : Int)) = true := by simp; omega
      have HD := Lib.hid (data_drop hlt)
      have hgen : Hid (Pax.numTo 8 (s[k] :: s.data.toList.drop (k + 1)) m k = Pax.num s.data.toList) := by rw [← HD.out]; exact HN.out.symm
      by_cases h8 : k < 8
      · have b2 : decide ((k : Int) < 8) = true := by simp; omega
        by_cases c1 : 48 ≤ s[k].toNat
        · have b3 : decide ((48 : Int) ≤ (s[k].toNat : Int)) = true := by simp; omega
          by_cases c2 : s[k].toNat ≤ 57
          · have b4 : decide ((s[k].toNat : Int) ≤ 57) = true := by simp; omega
            have HX : Hid (Pax.num s.data.toList = Pax.numTo 8 (s.data.toList.drop (k + 1)) (10 * m + (s[k].toNat - 48)) (k + 1)) := by rw [← hgen.out, Pax.numTo, if_pos ⟨h8, c1, c2⟩]; rfl
            go_wp2
            go_round
            case rel => exact ⟨k + 1, 10 * m + (s[k].toNat - 48), by omega, by omega, by have := H3.out; show _ < _; rw [Nat.pow_succ]; omega, by go_num, by go_num, HX⟩
            case measure => simp [intOf]; omega
          · have b4 : decide ((s[k].toNat : Int) ≤ 57) = false := by simp; omega
            have HX : Hid (Pax.num s.data.toList = (m, k)) := by rw [← hgen.out]; exact numTo_stop (fun c r e => by cases e; omega)
            go_wp2
            go_ret2
            rw [HX.out]
            exact ⟨rfl, rfl⟩
        · have b3 : decide ((48 : Int) ≤ (s[k].toNat : Int)) = false := by simp; omega
          have HX : Hid (Pax.num s.data.toList = (m, k)) := by rw [← hgen.out]; exact numTo_stop (fun c r e => by cases e; omega)
          go_wp2
          go_ret2
          rw [HX.out]
          exact ⟨rfl, rfl⟩
      · have b2 : decide ((k : Int) < 8) = false := by simp; omega
        have HX : Hid (Pax.num s.data.toList = (m, k)) := by rw [← hgen.out]; exact numTo_stop (fun c r e => by cases e; omega)
        go_wp2
        go_ret2
        rw [HX.out]
        exact ⟨rfl, rfl⟩
    · have b1 : decide ((k : Int) < (s.size : Int)) = false := by simp; omega
      have HX : Hid (Pax.num s.data.toList = (m, k)) := by rw [HN.out]; exact numTo_stop (fun c r e => by rw [List.drop_of_length_le (by simp; omega)] at e; cases e)
      go_wp2
      go_ret2
      rw [HX.out]
      exact ⟨rfl, rfl⟩

def CutRes (l : List UInt8) (c : UInt8) (w : World) (e : Ending) (w' : World) : Prop :=
  (∃ n, w' = w.drewN n) ∧ match Pax.cut1 c l with
    | some (a, b) => e = .returned (.tuple #[.string (bs a), .string (bs b), .bool true])
    | none => e = .returned (.tuple #[.string (bs []), .string (bs []), .bool false])
set_option maxHeartbeats 400000 in
theorem cut_any (l : List UInt8) (c : UInt8) (w : World) (hs : l.length ≤ 1125899906842624) : Calls Tryd.prog 26 #[.string (bs l), .int .u8 (c.toNat : Int)] w (CutRes l c w) := by
  go_enter Tryd.func26, Tryd.ntmps26
  go_wp2
  go_loop [7] (fun i => ∃ k : Nat, k ≤ l.length ∧ i = .int .i64 k ∧ Hid (c ∉ l.take k)) (fun i => l.length - (intOf i).toNat)
  case atStart => exact ⟨0, Nat.zero_le _, rfl, by simp [Hid]⟩
  case round =>
    obtain ⟨k, hk, rfl, HK⟩ := hrel
    by_cases hlt : k < l.length
    · have hg := bs_get_bang l k hlt
      have hsz := bs_size l
      by_cases hc : l[k] = c
      · have hb : ((((bs l)[k]'(by rw [bs_size]; exact hlt)).toNat : Int) == (c.toNat : Int)) = true := by rw [hg, hc]; simp
        have HX := Lib.hid (Pax.cut1_at hlt hc HK.out)
        have q1 : decide ((k : Int) ≤ (l.length : Int)) = true := by simp; omega
        have q2 : decide ((k : Int) + 1 ≤ (l.length : Int)) = true := by simp; omega
        have q3 : decide ((0 : Int) ≤ (k : Int) + 1) = true := by simp; omega
        have q4 : ((k : Int) + 1).toNat = k + 1 := by omega
        clear hg hc
        go_wp2
        go_quiet (fail)
        go_wp2
        go_ret3
        refine ⟨⟨_, rfl⟩, ?_⟩
        rw [HX.out]
        rfl
      · have hb : ((((bs l)[k]'(by rw [bs_size]; exact hlt)).toNat : Int) == (c.toNat : Int)) = false := by
          rw [hg]; simp [Int.ofNat_inj, UInt8.toNat_inj, hc]
        have HM : Hid (c ∉ l.take (k + 1)) := by
          show _ ∉ _
          rw [List.take_succ_eq_append_getElem hlt]
          have := HK.out
          simp only [List.mem_append, List.mem_singleton, not_or]
          exact ⟨this, fun e => hc e.symm⟩
        clear hg hc
        go_wp2
        go_round
        case rel => exact ⟨k + 1, by omega, by go_num, HM⟩
        case measure => simp [intOf]; omega
    · have HX : Hid (Pax.cut1 c l = none) := Pax.cut1_no (by have := HK.out; rwa [List.take_of_length_le (by omega)] at this)
      go_wp2
      go_ret3
      refine ⟨⟨0, rfl⟩, ?_⟩
      rw [HX.out]
      rfl

theorem cut61 (l : List UInt8) (w : World) (hs : l.length ≤ 1125899906842624) : Calls Tryd.prog 26 #[.string (bs l), .int .u8 61] w fun e w' => (∃ n, w' = w.drewN n) ∧ e = .returned (match Pax.cut1 61 l with
    | some (a, b) => .tuple #[.string (bs a), .string (bs b), .bool true]
    | none => .tuple #[.string (bs []), .string (bs []), .bool false]) :=
  (cut_any l 61 w hs).mono fun e w' ⟨h1, h2⟩ => ⟨h1, by
    cases h : Pax.cut1 61 l with
    | none => rw [h] at h2; exact h2
    | some p => rw [h] at h2; exact h2⟩
theorem numTo_le : ∀ (s : List UInt8) (n i : Nat), i ≤ 8 → n < 10 ^ i → (Pax.numTo 8 s n i).2 ≤ 8 ∧ (Pax.numTo 8 s n i).1 < 100000000
  | [], n, i, h, h2 => ⟨h, by have : 10 ^ i ≤ 10 ^ 8 := Nat.pow_le_pow_right (by omega) h; simp only [Pax.numTo]; omega⟩
  | c :: r, n, i, h, h2 => by
    unfold Pax.numTo
    split
    · rename_i hc
      exact numTo_le r _ _ (by omega) (by rw [Nat.pow_succ]; omega)
    · exact ⟨h, by have : 10 ^ i ≤ 10 ^ 8 := Nat.pow_le_pow_right (by omega) h; simp only; omega⟩
theorem num_le (s : List UInt8) : (Pax.num s).2 ≤ 8 ∧ (Pax.num s).1 < 100000000 := numTo_le s 0 0 (by omega) (by simp)
/-- what Read tells -/
def readRes (r : Option (List UInt8 × List UInt8 × Nat)) (at_ : Nat) : Value := match r with
  | some (k, v, n) => .tuple #[.string (bs k), .string (bs v), .int .i64 ((at_ : Int) + (n : Int)), .int .i64 0]
  | none => .tuple #[.string (bs []), .string (bs []), .int .i64 0, .int .i64 4]
def readAny (l : List UInt8) (at_ : Int) (r : List UInt8 → Option (List UInt8 × List UInt8 × Nat)) : Value :=
  if at_ < 0 ∨ (l.length : Int) < at_ then .tuple #[.string (bs []), .string (bs []), .int .i64 0, .int .i64 1]
  else if at_ = l.length then .tuple #[.string (bs []), .string (bs []), .int .i64 0, .int .i64 5]
  else readRes (r (l.drop at_.toNat)) at_.toNat

set_option maxHeartbeats 400000 in
theorem refRead_in (l : List UInt8) (a : Nat) (w : World) (hs : l.length ≤ 1125899906842624) (ha : a < l.length) : Calls Tryd.prog 12 #[.string (bs l), .int .i64 a] w fun e w' => e = .returned (readRes (Pax.readRef (l.drop a)) a) ∧ Below w.heap.size w w' := by
  have b1 : decide ((a : Int) < 0) = false := by simp
  have b2 : decide ((l.length : Int) < (a : Int)) = false := by simp; omega
  have b3 : ((a : Int) == (l.length : Int)) = false := by simp; omega
  have hn := number_any (bs (l.drop a)) w (by rw [bs_size, List.length_drop]; omega)
  rw [bs_data] at hn
  generalize hnum : Pax.num (l.drop a) = nd at *
  obtain ⟨n, d⟩ := nd
  have HN := Lib.hid hnum
  have HC := Lib.hid hn
  clear hnum hn
  have hd8 : d ≤ 8 ∧ n < 100000000 := by
    have := num_le (l.drop a)
    rw [HN.out] at this
    exact this
  by_cases c1 : d = 0
  · subst c1
    have HR : Hid (Pax.readRef (l.drop a) = none) := by simp [Hid, Pax.readRef, HN.out]
    go_enter Tryd.func12, Tryd.ntmps12
    go_wp2_with (go_at_call 25; refine HC.out.mono ?_; rintro e w' ⟨rfl, rfl⟩)
    refine bodyPost_ret (results_tmp4 rfl _ _ _) rfl ?_
    rw [HR.out]
    exact ⟨rfl, Below.refl _ _⟩
  · have e1 : ((d : Int) == 0) = false := by simp; omega
    by_cases c2 : n < d + 2
    · have e2 : decide ((n : Int) < (d : Int) + 2) = true := by simp; omega
      have HR : Hid (Pax.readRef (l.drop a) = none) := by simp [Hid, Pax.readRef, HN.out, c2]
      go_enter Tryd.func12, Tryd.ntmps12
      go_wp2_with (go_at_call 25; refine HC.out.mono ?_; rintro e w' ⟨rfl, rfl⟩)
      refine bodyPost_ret (results_tmp4 rfl _ _ _) rfl ?_
      rw [HR.out]
      exact ⟨rfl, Below.refl _ _⟩
    · have e2 : decide ((n : Int) < (d : Int) + 2) = false := by simp; omega
      by_cases c3 : l.length - a < n
      · have e3 : decide ((l.length : Int) - (a : Int) < (n : Int)) = true := by simp; omega
        have HR : Hid (Pax.readRef (l.drop a) = none) := by simp [Hid, Pax.readRef, HN.out, c3]
        go_enter Tryd.func12, Tryd.ntmps12
        go_wp2_with (go_at_call 25; refine HC.out.mono ?_; rintro e w' ⟨rfl, rfl⟩)
        refine bodyPost_ret (results_tmp4 rfl _ _ _) rfl ?_
        rw [HR.out]
        exact ⟨rfl, Below.refl _ _⟩
      · have e3 : decide ((l.length : Int) - (a : Int) < (n : Int)) = false := by simp; omega
        have HR : Hid (Pax.readRef (l.drop a) = Pax.readAt (l.drop a) n d) := by simp [Hid, Pax.readRef, HN.out, c1, c2, c3]
        have e4 : ((n : Int) - 1).toNat = n - 1 := by omega
        have e5 : a + n - a = n := by omega
        have hlt : (((l.drop a).take n).drop (d + 1)).length ≤ 1125899906842624 := by simp; omega
        have HCut := fun w' => Lib.hid (cut61 ((((l.drop a).take n).drop (d + 1)).take (n - 1 - (d + 1))) w' (by simp; omega))
        have HRA : Hid (Pax.readAt (l.drop a) n d = match Pax.cut1 61 ((((l.drop a).take n).drop (d + 1)).take (n - 1 - (d + 1))) with
          | none => none
          | some (k, v) => if Pax.writeE k v = 0 ∧ Pax.write k v = (l.drop a).take n then some (k, v, n) else none) := rfl
        cases hcut : Pax.cut1 61 ((((l.drop a).take n).drop (d + 1)).take (n - 1 - (d + 1))) with
        | none =>
          have HR2 : Hid (Pax.readRef (l.drop a) = none) := by show _ = _; rw [HR.out, HRA.out, hcut]
          rw [hcut] at HCut
          clear hcut
          go_enter Tryd.func12, Tryd.ntmps12
          go_wp2_with (first | (go_at_call 25; refine HC.out.mono ?_; rintro e w' ⟨rfl, rfl⟩) | (go_at_call 26; refine (HCut _).out.mono ?_; rintro e w' ⟨⟨q, rfl⟩, rfl⟩))
          refine bodyPost_ret (results_tmp4 rfl _ _ _) rfl ?_
          rw [HR2.out]
          exact ⟨rfl, below_drewN (Below.refl _ _) _⟩
        | some p =>
          obtain ⟨k, v⟩ := p
          have hkv := congrArg List.length (Pax.cut1_some hcut).1
          simp only [List.length_append, List.length_cons, List.length_take] at hkv
          rw [hcut] at HCut HRA
          clear hcut
          have HW := fun w' => Lib.hid (refWrite_any k v w' (by omega) (by omega))
          by_cases c5 : Pax.writeE k v = 0
          · have e6 : (Pax.writeE k v != 0) = false := by simp [c5]
            by_cases c6 : Pax.write k v = (l.drop a).take n
            · have e7 : (Pax.write k v != (l.drop a).take n) = false := by simp [c6]
              have HR2 : Hid (Pax.readRef (l.drop a) = some (k, v, n)) := by show _ = _; rw [HR.out, HRA.out]; simp [c5, c6]
              clear c5
              go_enter Tryd.func12, Tryd.ntmps12
              go_wp2_with (first | (go_at_call 25; refine HC.out.mono ?_; rintro e w' ⟨rfl, rfl⟩) | (go_at_call 26; refine (HCut _).out.mono ?_; rintro e w' ⟨⟨q, rfl⟩, rfl⟩) | (go_at_call 9; refine (HW _).out.mono ?_; rintro e w' ⟨rfl, hb1⟩))
              refine bodyPost_ret (results_tmp4 rfl _ _ _) rfl ?_
              rw [HR2.out]
              exact ⟨rfl, (below_drewN (Below.refl _ _) _).trans hb1⟩
            · have e7 : (Pax.write k v != (l.drop a).take n) = true := by simp [c6]
              have e8 : (Pax.write k v == (l.drop a).take n) = false := by simp [c6]
              have HR2 : Hid (Pax.readRef (l.drop a) = none) := by show _ = _; rw [HR.out, HRA.out]; simp [c6]
              clear c5
              go_enter Tryd.func12, Tryd.ntmps12
              go_wp2_with (first | (go_at_call 25; refine HC.out.mono ?_; rintro e w' ⟨rfl, rfl⟩) | (go_at_call 26; refine (HCut _).out.mono ?_; rintro e w' ⟨⟨q, rfl⟩, rfl⟩) | (go_at_call 9; refine (HW _).out.mono ?_; rintro e w' ⟨rfl, hb1⟩))
              refine bodyPost_ret (results_tmp4 rfl _ _ _) rfl ?_
              rw [HR2.out]
              exact ⟨rfl, (below_drewN (Below.refl _ _) _).trans hb1⟩
          · have e6 : (Pax.writeE k v != 0) = true := by simp [c5]
            have HR2 : Hid (Pax.readRef (l.drop a) = none) := by show _ = _; rw [HR.out, HRA.out]; simp [c5]
            clear c5
            go_enter Tryd.func12, Tryd.ntmps12
            go_wp2_with (first | (go_at_call 25; refine HC.out.mono ?_; rintro e w' ⟨rfl, rfl⟩) | (go_at_call 26; refine (HCut _).out.mono ?_; rintro e w' ⟨⟨q, rfl⟩, rfl⟩) | (go_at_call 9; refine (HW _).out.mono ?_; rintro e w' ⟨rfl, hb1⟩))
            refine bodyPost_ret (results_tmp4 rfl _ _ _) rfl ?_
            rw [HR2.out]
            exact ⟨rfl, (below_drewN (Below.refl _ _) _).trans hb1⟩
end Go.Proofs.YtbhdehkdnenigaaDoor
