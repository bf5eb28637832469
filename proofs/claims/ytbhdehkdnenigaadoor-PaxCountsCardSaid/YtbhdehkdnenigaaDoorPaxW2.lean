/- Walks: cofferref04.Decimal, cofferref04.Length, pax.length; how many digits a number has. -/
import Derived.Test.YtbhdehkdnenigaaDoorPaxW1
import Derived.Lib.AppendIntMem
set_option linter.unusedVariables false
set_option linter.unusedSimpArgs false
namespace Go.Proofs.YtbhdehkdnenigaaDoor
open Go.RowKit
attribute [local go_sem] bs_size bs_append

theorem dec_small {m : Nat} (h : m < 10) : Pax.dec m = [b8 (48 + (m : Int) % 10)] := by
  unfold Pax.dec b8
  rw [Lib.decDigits, dif_pos h]
  congr 2
  omega
theorem dec_big {m : Nat} (h : ¬ m < 10) : Pax.dec m = Pax.dec (m / 10) ++ [b8 (48 + (m : Int) % 10)] := by
  unfold Pax.dec b8
  rw [Lib.decDigits, dif_neg h]
  congr 3
set_option maxHeartbeats 400000 in
theorem decimal_any (n : Nat) (w : World) (hn : n < 9223372036854775807) : Calls Tryd.prog 21 #[.int .i64 n] w fun e w' => e = .returned (.string (bs (Pax.dec n))) ∧ Below w.heap.size w w' := by
  have hc := fun (W : World) (x : Int) (t : TypeId) => conv1 (P := Tryd.prog) (src := 33) (dst := 9) Tryd.underlying33 Tryd.underlying5 Tryd.underlying9 W x t
  go_enter Tryd.func21, Tryd.ntmps21
  go_wp2
  go_loopw [0, 3] (fun n0 s wr => ∃ (m : Nat) (acc : List UInt8), n0 = .int .i64 m ∧ s = .string (bs acc) ∧ m ≤ n ∧ acc.length + m ≤ n ∧ Hid (Pax.dec n = Pax.dec m ++ acc) ∧ Below w.heap.size w wr) (fun n0 _ _ => (intOf n0).toNat)
  case atStart => exact ⟨n, [], rfl, rfl, Nat.le_refl _, by simp, by simp [Hid], Below.refl _ _⟩
  case round =>
    obtain ⟨m, acc, rfl, rfl, hm, hl, HD, hb⟩ := hrel
    have hq2 : ¬ 9223372036854775807 < 1 + acc.length := by omega
    by_cases hlt : m < 10
    · have hq : ((m : Int) / 10 == 0) = true := by simp; omega
      have HS := Lib.hid (dec_small hlt)
      go_wp2
      go_ret
      refine ⟨ret_str ?_, hb.alloc hb.size _⟩
      rw [HD.out, HS.out]
      rfl
    · have hq : ((m : Int) / 10 == 0) = false := by simp; omega
      have HS := Lib.hid (dec_big hlt)
      go_wp2
      go_roundw
      case rel => exact ⟨m / 10, b8 (48 + (m : Int) % 10) :: acc, rfl, rfl, by omega, by simp; omega, by show _ = _; rw [HD.out, HS.out]; simp, hb.alloc hb.size _⟩
      case measure => simp [intOf]; omega

theorem dec_length (n : Nat) : (Pax.dec n).length = Lib.nDigits n := Lib.decDigits_length n
theorem dec_len_le {n : Nat} (h : n < 18446744073709551616) : (Pax.dec n).length ≤ 20 := by rw [dec_length]; exact Lib.nDigits_le20 n h
theorem dec_len_pos (n : Nat) : 1 ≤ (Pax.dec n).length := by rw [dec_length]; exact Lib.nDigits_pos n
theorem pow_le_nDigits (n : Nat) (h : 0 < n) : 10 ^ (Lib.nDigits n - 1) ≤ n := by
  induction n using Nat.strongRecOn with
  | _ n ih =>
    by_cases h1 : n < 10
    · rw [Lib.nDigits_small h1]; simp; omega
    · have h2 := ih (n / 10) (by omega) (by omega)
      have h3 := Lib.nDigits_pos (n / 10)
      rw [Lib.nDigits_big h1, show Lib.nDigits (n / 10) + 1 - 1 = Lib.nDigits (n / 10) - 1 + 1 from by omega, Nat.pow_succ]
      omega
theorem nDigits_mono {a b : Nat} (h : a ≤ b) : Lib.nDigits a ≤ Lib.nDigits b := by
  rcases Nat.eq_zero_or_pos a with rfl | hp
  · rw [Lib.nDigits_small (by omega)]; exact Lib.nDigits_pos b
  rcases Nat.lt_or_ge (Lib.nDigits b) (Lib.nDigits a) with h4 | h4
  · have h5 := Lib.lt_pow_nDigits b
    have h6 := pow_le_nDigits a hp
    have h7 : 10 ^ Lib.nDigits b ≤ 10 ^ (Lib.nDigits a - 1) := Nat.pow_le_pow_right (by omega) (by omega)
    omega
  · exact h4

theorem lenD_hit {n f d : Nat} (h : (Pax.dec (n + d)).length = d) : Pax.lenD n (f + 1) d = d := by simp [Pax.lenD, h]
theorem lenD_miss {n f d : Nat} (h : (Pax.dec (n + d)).length ≠ d) : Pax.lenD n (f + 1) d = Pax.lenD n f (d + 1) := by simp [Pax.lenD, h]
theorem dec_room {n d : Nat} (h : d ≤ (Pax.dec (n + d)).length) (h1 : (Pax.dec (n + d)).length ≠ d) : d + 1 ≤ (Pax.dec (n + (d + 1))).length ∧ d < (Pax.dec (n + d)).length := by
  have h2 : Lib.nDigits (n + d) ≤ Lib.nDigits (n + (d + 1)) := nDigits_mono (by omega)
  simp only [dec_length] at *
  omega

theorem tab_below {w w' : World} (h : Lib.TabIs Tryd.prog w "internal/strconv.uint64pow10" .u64 Lib.pow10Tab) (hb : Below w.heap.size w w') : Lib.TabIs Tryd.prog w' "internal/strconv.uint64pow10" .u64 Lib.pow10Tab := Lib.tabBelow_of_tabIs h w' hb
theorem below_grow {w w' : World} (h : ∃ k os, w' = Go.Sort.grow (w.drewN k) os) : Below w.heap.size w w' := by
  obtain ⟨k, os, rfl⟩ := h
  exact ⟨rfl, rfl, rfl, by simp [Go.Sort.grow], fun i hi => by simp [Go.Sort.grow, Array.getElem?_append, hi]⟩
theorem itoa_c (n : Nat) (w : World) (hn : n ≤ 9223372036854775807) (htab : Lib.TabIs Tryd.prog w "internal/strconv.uint64pow10" .u64 Lib.pow10Tab) : Calls Tryd.prog 18 #[.int .i64 n] w fun e w' => e = .returned (.string (bs (Pax.dec n))) ∧ Below w.heap.size w w' :=
  (Tryd.strconv_Itoa n (by omega) (by omega) w htab).mono fun e w' ⟨h1, h2⟩ => ⟨by rw [h1, Lib.itoa_nonneg]; rfl, below_grow h2⟩

set_option maxHeartbeats 400000 in
theorem refLength_any (n : Nat) (w : World) (hn : n ≤ 9223372036854775000) : Calls Tryd.prog 20 #[.int .i64 n] w fun e w' => e = .returned (.int .i64 (Pax.lenOf n)) ∧ Below w.heap.size w w' := by
  go_enter Tryd.func20, Tryd.ntmps20
  go_wp2
  go_loopw [3] (fun d wr => ∃ k : Nat, d = .int .i64 k ∧ 1 ≤ k ∧ k ≤ 20 ∧ Hid (Pax.lenD n (25 - k) k = Pax.lenD n 24 1) ∧ Hid (k ≤ (Pax.dec (n + k)).length) ∧ Below w.heap.size w wr) (fun d _ => 20 - (intOf d).toNat)
  case atStart => exact ⟨1, rfl, by omega, by omega, rfl, dec_len_pos _, Below.refl _ _⟩
  case round =>
    obtain ⟨k, rfl, h1, h2, HD, HL, hb⟩ := hrel
    have hc := decimal_any (n + k) wr (by omega)
    have HC := Lib.hid hc
    clear hc
    have hl20 := dec_len_le (n := n + k) (by omega)
    by_cases hq : (Pax.dec (n + k)).length = k
    · have hqb : (((Pax.dec (n + k)).length : Int) != (k : Int)) = false := by simp [hq]
      go_wp2_with (go_at_call 21; refine HC.out.mono ?_; rintro e w' ⟨rfl, hb1⟩)
      go_ret
      refine ⟨ret_int ?_, hb.trans (hb1.mono hb.size)⟩
      have := HD.out
      rw [show 25 - k = (24 - k) + 1 from by omega, lenD_hit hq] at this
      unfold Pax.lenOf
      rw [← this]
      omega
    · have hqb : (((Pax.dec (n + k)).length : Int) != (k : Int)) = true := by simp; omega
      have hr := dec_room HL.out hq
      have hn := HD.out
      rw [show 25 - k = (24 - k) + 1 from by omega, lenD_miss hq] at hn
      have HN := Lib.hid hn
      have HR := Lib.hid hr
      clear hn hr
      go_wp2_with (go_at_call 21; refine HC.out.mono ?_; rintro e w' ⟨rfl, hb1⟩)
      go_roundw
      case rel => exact ⟨k + 1, by go_num, by omega, by have := HR.out.2; omega, by rw [show 25 - (k + 1) = 24 - k from by omega]; exact HN.out, HR.out.1, hb.trans (hb1.mono hb.size)⟩
      case measure => simp [intOf]; have := HR.out.2; omega
set_option maxHeartbeats 400000 in
theorem paxLength_any (n : Nat) (w : World) (hn : n ≤ 9223372036854775000) (htab : Lib.TabIs Tryd.prog w "internal/strconv.uint64pow10" .u64 Lib.pow10Tab) : Calls Tryd.prog 17 #[.int .i64 n] w fun e w' => e = .returned (.int .i64 (Pax.lenOf n)) ∧ Below w.heap.size w w' := by
  go_enter Tryd.func17, Tryd.ntmps17
  go_wp2
  have HT := Lib.hid htab
  clear htab
  go_loopw [3] (fun d wr => ∃ k : Nat, d = .int .i64 k ∧ 1 ≤ k ∧ k ≤ 20 ∧ Hid (Pax.lenD n (25 - k) k = Pax.lenD n 24 1) ∧ Hid (k ≤ (Pax.dec (n + k)).length) ∧ Below w.heap.size w wr) (fun d _ => 20 - (intOf d).toNat)
  case atStart => exact ⟨1, rfl, by omega, by omega, rfl, dec_len_pos _, Below.refl _ _⟩
  case round =>
    obtain ⟨k, rfl, h1, h2, HD, HL, hb⟩ := hrel
    have hc := itoa_c (n + k) wr (by omega) (tab_below HT.out hb)
    have HC := Lib.hid hc
    clear hc
    have hl20 := dec_len_le (n := n + k) (by omega)
    by_cases hq : (Pax.dec (n + k)).length = k
    · have hqb : (((Pax.dec (n + k)).length : Int) == (k : Int)) = true := by simp [hq]
      go_wp2_with (go_at_call 18; refine HC.out.mono ?_; rintro e w' ⟨rfl, hb1⟩)
      go_ret
      refine ⟨ret_int ?_, hb.trans (hb1.mono hb.size)⟩
      have := HD.out
      rw [show 25 - k = (24 - k) + 1 from by omega, lenD_hit hq] at this
      unfold Pax.lenOf
      rw [← this]
      omega
    · have hqb : (((Pax.dec (n + k)).length : Int) == (k : Int)) = false := by simp; omega
      have hr := dec_room HL.out hq
      have hn := HD.out
      rw [show 25 - k = (24 - k) + 1 from by omega, lenD_miss hq] at hn
      have HN := Lib.hid hn
      have HR := Lib.hid hr
      clear hn hr
      go_wp2_with (go_at_call 18; refine HC.out.mono ?_; rintro e w' ⟨rfl, hb1⟩)
      go_roundw
      case rel => exact ⟨k + 1, by go_num, by omega, by have := HR.out.2; omega, by rw [show 25 - (k + 1) = 24 - k from by omega]; exact HN.out, HR.out.1, hb.trans (hb1.mono hb.size)⟩
      case measure => simp [intOf]; have := HR.out.2; omega
end Go.Proofs.YtbhdehkdnenigaaDoor
