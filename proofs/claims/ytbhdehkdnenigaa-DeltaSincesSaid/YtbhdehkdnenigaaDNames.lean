/- Walks: small names, keys, data: the two answers of chapter 12. -/
import Derived.Test.YtbhdehkdnenigaaDKinds
import Derived.Laws.RangeAny
import Derived.Lib.OthersKept
import Derived.Deep.LoopGhost
set_option linter.unusedVariables false
set_option linter.unusedSimpArgs false
namespace Go.Proofs.Ytbhdehkdnenigaa
open Go.RowKit Go.Proofs.YtbhdehkdnenigaaW.PrintWords

def isSm (c : Nat) : Bool := (c == 45) || (decide (97 ≤ c) && decide (c ≤ 122)) || (decide (48 ≤ c) && decide (c ≤ 57))
def smB (s : ByteArray) : Bool := s.data.toList.all fun c => isSm c.toNat
def sml (s : ByteArray) (most : Int) : Bool := smB s && decide (1 ≤ s.size) && decide ((s.size : Int) ≤ most)
theorem all_take_succ {l : List UInt8} {p : UInt8 → Bool} {k : Nat} (h : k < l.length) (h0 : (l.take k).all p = true) (h1 : p l[k] = true) : (l.take (k + 1)).all p = true := by
  rw [List.take_succ_eq_append_getElem h, List.all_append, h0]
  simpa using h1
theorem all_bad {l : List UInt8} {p : UInt8 → Bool} {k : Nat} (h : k < l.length) (h1 : p l[k] = false) : l.all p = false := by
  rw [Bool.eq_false_iff]
  intro h2
  rw [List.all_eq_true.1 h2 _ (List.getElem_mem h)] at h1
  cases h1
theorem smB_bad {s : ByteArray} {k : Nat} (h : k < s.size) (h1 : isSm (s[k]'h).toNat = false) : smB s = false := all_bad (k := k) (by simpa using h) h1
set_option maxHeartbeats 400000 in
theorem refSmall_any (s : ByteArray) (most : Int) (w : World) (hs : s.size ≤ 9223372036854775807) : Calls Try.prog 53 #[.string s, .int .i64 most] w fun e w' => e = .returned (.bool (sml s most)) ∧ w = w' := by
  go_enter Try.func53, Try.ntmps53
  go_wp2
  go_loop [5] (fun i => ∃ k : Nat, k ≤ s.size ∧ i = .int .i64 k ∧ Hid ((s.data.toList.take k).all (fun c => isSm c.toNat) = true)) (fun i => s.size - (intOf i).toNat)
  case atStart => exact ⟨0, Nat.zero_le _, rfl, rfl⟩
  case round =>
    obtain ⟨k, hk, rfl, HK⟩ := hrel
    by_cases hlt : k < s.size
    · have hg : s.data.toList[k]'(by simpa using hlt) = s[k] := rfl
      have HG := Lib.hid hg
      clear hg
      cases hc : isSm (s[k]'hlt).toNat with
      | true =>
        have HS : Hid ((s.data.toList.take (k + 1)).all (fun c => isSm c.toNat) = true) := all_take_succ (by simpa using hlt) HK.out (by rw [HG.out]; exact hc)
        simp only [isSm, Bool.or_eq_true, Bool.and_eq_true, beq_iff_eq, decide_eq_true_eq] at hc
        go_wp2
        all_goals first
          | (exfalso; (try simp only [bne_eq_false_iff_eq, bne_iff_ne] at *); omega)
          | (go_round
             case rel => exact ⟨k + 1, by omega, by go_num, HS.out⟩
             case measure => simp [intOf]; omega)
      | false =>
        have HS := Lib.hid (smB_bad hlt hc)
        simp only [isSm, Bool.or_eq_false_iff, Bool.and_eq_false_iff, beq_eq_false_iff_ne, decide_eq_false_iff_not] at hc
        go_wp2
        all_goals first
          | (exfalso; (try simp only [bne_eq_false_iff_eq, bne_iff_ne] at *); omega)
          | (go_ret
             exact ⟨ret_bool (by simp [sml, HS.out]), rfl⟩)
    · obtain rfl : k = s.size := by omega
      have h0 := HK.out
      rw [List.take_of_length_le (by simp)] at h0
      have HS : Hid (smB s = true) := h0
      clear h0
      by_cases h1 : 1 ≤ s.size
      · have b1 : decide ((1 : Int) ≤ (s.size : Int)) = true := by simp; omega
        have b2 : Hid (decide ((s.size : Int) ≤ most) = sml s most) := by
          show _ = _
          simp [sml, HS.out, h1]
        go_wp2
        go_ret
        exact ⟨ret_bool b2.out, rfl⟩
      · have b1 : decide ((1 : Int) ≤ (s.size : Int)) = false := by simp; omega
        have b2 : Hid (false = sml s most) := by
          show _ = _
          simp [sml, h1]
        go_wp2
        go_ret
        exact ⟨ret_bool b2.out, rfl⟩
set_option maxHeartbeats 400000 in
theorem refKey_any (s : ByteArray) (w : World) (hs : s.size ≤ 9223372036854775807) : Calls Try.prog 42 #[.string s] w fun e w' => e = .returned (.int .i64 (if 1 ≤ s.size ∧ s.size ≤ 32 then 0 else 61)) ∧ w = w' := by
  go_enter Try.func42, Try.ntmps42
  go_wp2
  all_goals go_ret
  all_goals refine ⟨ret_int ?_, rfl⟩
  all_goals first | rfl | omega | (split <;> omega)
set_option maxHeartbeats 400000 in
theorem refData_any (s : ByteArray) (w : World) (hs : s.size ≤ 9223372036854775807) : Calls Try.prog 43 #[.string s] w fun e w' => e = .returned (.int .i64 (if s.size ≤ 1024 then 0 else 63)) ∧ w = w' := by
  go_enter Try.func43, Try.ntmps43
  go_wp2
  all_goals go_ret
  all_goals refine ⟨ret_int ?_, rfl⟩
  all_goals first | rfl | omega | (split <;> omega)
end Go.Proofs.Ytbhdehkdnenigaa
