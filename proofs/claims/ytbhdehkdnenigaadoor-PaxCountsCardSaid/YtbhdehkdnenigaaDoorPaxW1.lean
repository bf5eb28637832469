/- Walk: cofferref04.Key. -/
import Derived.Test.YtbhdehkdnenigaaDoorBs
import Derived.Test.YtbhdehkdnenigaaDoorPaxSpec
import Derived.Test.YtbhdehkdnenigaaDoorShelf
set_option linter.unusedVariables false
set_option linter.unusedSimpArgs false
namespace Go.Proofs.YtbhdehkdnenigaaDoor
open Go.RowKit

theorem any_take_succ {l : List UInt8} {p : UInt8 → Bool} {k : Nat} (h : k < l.length) (h0 : (l.take k).any p = false) (h1 : p l[k] = false) : (l.take (k + 1)).any p = false := by
  rw [List.take_succ_eq_append_getElem h, List.any_append, h0]
  simp [h1]
theorem any_of_mem {l : List UInt8} {p : UInt8 → Bool} {k : Nat} (h : k < l.length) (h1 : p l[k] = true) : l.any p = true :=
  List.any_eq_true.2 ⟨l[k], List.getElem_mem h, h1⟩
theorem beq_u8 (c : UInt8) (n : Nat) (hn : n < 256) : ((c.toNat : Int) == (n : Int)) = (c == UInt8.ofNat n) := by
  rw [Bool.eq_iff_iff]
  simp only [beq_iff_eq]
  constructor
  · intro h
    apply UInt8.toNat_inj.1
    rw [UInt8.toNat_ofNat']
    omega
  · rintro rfl
    rw [UInt8.toNat_ofNat']
    omega


set_option maxHeartbeats 400000 in
theorem key_any (s : ByteArray) (w : World) (hs : s.size ≤ 9223372036854775807) : Calls Tryd.prog 19 #[.string s] w fun e w' => e = .returned (.bool (Pax.isKey s.data.toList)) ∧ w = w' := by
  go_enter Tryd.func19, Tryd.ntmps19
  go_wp2
  go_loop [3] (fun i => ∃ k : Nat, k ≤ s.size ∧ i = .int .i64 k ∧ Hid ((s.data.toList.take k).any (fun c => c == 61 || c == 10) = false)) (fun i => s.size - (intOf i).toNat)
  case atStart => exact ⟨0, Nat.zero_le _, rfl, rfl⟩
  case round =>
    obtain ⟨k, hk, rfl, HK⟩ := hrel
    by_cases hlt : k < s.size
    · have hg : s.data.toList[k]'(by simpa using hlt) = s[k] := rfl
      have HG := Lib.hid hg
      clear hg
      by_cases c1 : s[k].toNat = 61
      · have b1 : ((s[k].toNat : Int) == 61) = true := by simp; omega
        go_wp2
        go_ret
        refine ⟨ret_bool ?_, rfl⟩
        unfold Pax.isKey
        rw [any_of_mem (k := k) (by simpa using hlt) (by rw [HG.out]; simp [← UInt8.toNat_inj, c1])]
        simp
      · have b1 : ((s[k].toNat : Int) == 61) = false := by simp; omega
        by_cases c2 : s[k].toNat = 10
        · have b2 : ((s[k].toNat : Int) == 10) = true := by simp; omega
          go_wp2
          go_ret
          refine ⟨ret_bool ?_, rfl⟩
          unfold Pax.isKey
          rw [any_of_mem (k := k) (by simpa using hlt) (by rw [HG.out]; simp [← UInt8.toNat_inj, c2])]
          simp
        · have b2 : ((s[k].toNat : Int) == 10) = false := by simp; omega
          go_wp2
          go_round
          case rel => exact ⟨k + 1, by omega, by go_num, any_take_succ (by simpa using hlt) HK.out (by rw [HG.out]; simp [← UInt8.toNat_inj, c1, c2])⟩
          case measure => simp [intOf]; omega
    · obtain rfl : k = s.size := by omega
      go_wp2
      go_outline
      go_ret
      refine ⟨ret_bool ?_, rfl⟩
      have h0 := HK.out
      rw [List.take_of_length_le (by simp)] at h0
      unfold Pax.isKey
      rw [h0, Lib.toList_data]
      simp
set_option maxHeartbeats 400000 in
theorem right_any (s : ByteArray) (w : World) (hs : s.size ≤ 9223372036854775807) : Calls Tryd.prog 13 #[.string s] w fun e w' => e = .returned (.bool (Pax.isKey s.data.toList)) ∧ w = w' := by
  go_enter Tryd.func13, Tryd.ntmps13
  go_wp2
  go_loop [3] (fun i => ∃ k : Nat, k ≤ s.size ∧ i = .int .i64 k ∧ Hid ((s.data.toList.take k).any (fun c => c == 61 || c == 10) = false)) (fun i => s.size - (intOf i).toNat)
  case atStart => exact ⟨0, Nat.zero_le _, rfl, rfl⟩
  case round =>
    obtain ⟨k, hk, rfl, HK⟩ := hrel
    by_cases hlt : k < s.size
    · have hg : s.data.toList[k]'(by simpa using hlt) = s[k] := rfl
      have HG := Lib.hid hg
      clear hg
      by_cases c1 : s[k].toNat = 61
      · have b1 : ((s[k].toNat : Int) == 61) = true := by simp; omega
        go_wp2
        go_ret
        refine ⟨ret_bool ?_, rfl⟩
        unfold Pax.isKey
        rw [any_of_mem (k := k) (by simpa using hlt) (by rw [HG.out]; simp [← UInt8.toNat_inj, c1])]
        simp
      · have b1 : ((s[k].toNat : Int) == 61) = false := by simp; omega
        by_cases c2 : s[k].toNat = 10
        · have b2 : ((s[k].toNat : Int) == 10) = true := by simp; omega
          go_wp2
          go_ret
          refine ⟨ret_bool ?_, rfl⟩
          unfold Pax.isKey
          rw [any_of_mem (k := k) (by simpa using hlt) (by rw [HG.out]; simp [← UInt8.toNat_inj, c2])]
          simp
        · have b2 : ((s[k].toNat : Int) == 10) = false := by simp; omega
          go_wp2
          go_round
          case rel => exact ⟨k + 1, by omega, by go_num, any_take_succ (by simpa using hlt) HK.out (by rw [HG.out]; simp [← UInt8.toNat_inj, c1, c2])⟩
          case measure => simp [intOf]; omega
    · obtain rfl : k = s.size := by omega
      go_wp2
      go_outline
      go_ret
      refine ⟨ret_bool ?_, rfl⟩
      have h0 := HK.out
      rw [List.take_of_length_le (by simp)] at h0
      unfold Pax.isKey
      rw [h0, Lib.toList_data]
      simp
end Go.Proofs.YtbhdehkdnenigaaDoor
