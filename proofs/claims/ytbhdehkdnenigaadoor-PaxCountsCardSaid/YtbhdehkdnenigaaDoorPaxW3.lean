/- Walks: cofferref04.Write and pax.Write. -/
import Derived.Test.YtbhdehkdnenigaaDoorPaxAny
set_option linter.unusedVariables false
set_option linter.unusedSimpArgs false
namespace Go.Proofs.YtbhdehkdnenigaaDoor
open Go.RowKit
attribute [local go_sem] bs_size bs_append

theorem lenOf_bound (n : Nat) : n + 1 ≤ Pax.lenOf n ∧ Pax.lenOf n ≤ n + 25 := by
  have h : ∀ f d, d ≤ Pax.lenD n f d ∧ Pax.lenD n f d ≤ d + f := by
    intro f
    induction f with
    | zero => intro d; simp [Pax.lenD]
    | succ f ih =>
      intro d
      unfold Pax.lenD
      have := ih (d + 1)
      split <;> omega
  have := h 24 1
  unfold Pax.lenOf
  omega

theorem text_eq (n : Nat) (k v : List UInt8) : Pax.dec n ++ [32] ++ k ++ [61] ++ v ++ [10] = Pax.text n k v := by simp [Pax.text]

set_option maxHeartbeats 400000 in
theorem refWrite_any (k v : List UInt8) (w : World) (hk : k.length ≤ 1125899906842624) (hv : v.length ≤ 1125899906842624) : Calls Tryd.prog 9 #[.string (bs k), .string (bs v)] w fun e w' => e = .returned (.tuple #[.string (bs (Pax.write k v)), .int .i64 (Pax.writeE k v)]) ∧ Below w.heap.size w w' := by
  have hkey := key_any (bs k) w (by rw [bs_size]; omega)
  rw [bs_data] at hkey
  have HK := Lib.hid hkey
  have hb := lenOf_bound (k.length + v.length + 3)
  have HL := Lib.hid (refLength_any (k.length + v.length + 3) w (by omega))
  have HD := fun w' => Lib.hid (decimal_any (Pax.lenOf (k.length + v.length + 3)) w' (by omega))
  generalize hn : Pax.lenOf (k.length + v.length + 3) = n at *
  have HN := Lib.hid hn
  clear hn hkey
  cases h1 : Pax.isKey k
  · have HW : Hid (Pax.write k v = [] ∧ Pax.writeE k v = 1) := by simp [Hid, Pax.write, Pax.writeE, h1]
    rw [h1] at HK
    clear h1
    go_enter Tryd.func9, Tryd.ntmps9
    go_wp2_with (go_at_call 19; refine HK.out.mono ?_; rintro e w' ⟨rfl, rfl⟩)
    go_ret2
    rw [HW.out.1, HW.out.2]
    exact ⟨rfl, Below.refl _ _⟩
  · rw [h1] at HK
    by_cases h2 : 1048576 < n
    · have HW : Hid (Pax.write k v = [] ∧ Pax.writeE k v = 3) := by simp [Hid, Pax.write, Pax.writeE, h1, HN.out, h2]
      clear h1
      go_enter Tryd.func9, Tryd.ntmps9
      go_wp2_with (first | (go_at_call 19; refine HK.out.mono ?_; rintro e w' ⟨rfl, rfl⟩) | (go_at_call 20; refine HL.out.mono ?_; rintro e w' ⟨rfl, hb1⟩))
      go_ret2
      rw [HW.out.1, HW.out.2]
      exact ⟨rfl, hb1⟩
    · have HW : Hid (Pax.write k v = Pax.text n k v ∧ Pax.writeE k v = 0) := by simp [Hid, Pax.write, Pax.writeE, h1, HN.out, h2]
      have hd := dec_len_le (n := n) (by omega)
      clear h1
      go_enter Tryd.func9, Tryd.ntmps9
      go_wp2_with (first | (go_at_call 19; refine HK.out.mono ?_; rintro e w' ⟨rfl, rfl⟩) | (go_at_call 20; refine HL.out.mono ?_; rintro e w' ⟨rfl, hb1⟩) | (go_at_call 21; refine (HD _).out.mono ?_; rintro e w' ⟨rfl, hb2⟩))
      go_ret2
      rw [HW.out.1, HW.out.2]
      refine ⟨?_, hb1.trans (hb2.mono hb1.size)⟩
      rw [← text_eq]
      simp only [← bs_append]
      rfl
set_option maxHeartbeats 400000 in
theorem paxWrite_any (k v : List UInt8) (w : World) (hk : k.length ≤ 1125899906842624) (hv : v.length ≤ 1125899906842624) (htab : Lib.TabIs Tryd.prog w "internal/strconv.uint64pow10" .u64 Lib.pow10Tab) : Calls Tryd.prog 8 #[.string (bs k), .string (bs v)] w fun e w' => e = .returned (.tuple #[.string (bs (Pax.write k v)), .int .i64 (Pax.writeE k v)]) ∧ Below w.heap.size w w' := by
  have hkey := isKey_any (bs k) w (by rw [bs_size]; omega)
  have HT := Lib.hid htab
  clear htab
  rw [bs_data] at hkey
  have HK := Lib.hid hkey
  have hb := lenOf_bound (k.length + v.length + 3)
  have HL := fun w' h => Lib.hid (paxLength_any (k.length + v.length + 3) w' (by omega) h)
  have HD := fun w' h => Lib.hid (itoa_c (Pax.lenOf (k.length + v.length + 3)) w' (by omega) h)
  generalize hn : Pax.lenOf (k.length + v.length + 3) = n at *
  have HN := Lib.hid hn
  clear hn hkey
  cases h1 : Pax.isKey k
  · have HW : Hid (Pax.write k v = [] ∧ Pax.writeE k v = 1) := by simp [Hid, Pax.write, Pax.writeE, h1]
    rw [h1] at HK
    clear h1
    go_enter Tryd.func8, Tryd.ntmps8
    go_wp2_with (go_at_call 16; refine HK.out.mono ?_; rintro e w' ⟨rfl, hb0⟩)
    go_ret2
    rw [HW.out.1, HW.out.2]
    exact ⟨rfl, hb0⟩
  · rw [h1] at HK
    by_cases h2 : 1048576 < n
    · have HW : Hid (Pax.write k v = [] ∧ Pax.writeE k v = 3) := by simp [Hid, Pax.write, Pax.writeE, h1, HN.out, h2]
      clear h1
      go_enter Tryd.func8, Tryd.ntmps8
      go_wp2_with (first | (go_at_call 16; refine HK.out.mono ?_; rintro e w' ⟨rfl, hb0⟩) | (go_at_call 17; refine (HL _ (tab_below HT.out hb0)).out.mono ?_; rintro e w' ⟨rfl, hb1⟩))
      go_ret2
      rw [HW.out.1, HW.out.2]
      exact ⟨rfl, hb0.trans (hb1.mono hb0.size)⟩
    · have HW : Hid (Pax.write k v = Pax.text n k v ∧ Pax.writeE k v = 0) := by simp [Hid, Pax.write, Pax.writeE, h1, HN.out, h2]
      have hd := dec_len_le (n := n) (by omega)
      clear h1
      go_enter Tryd.func8, Tryd.ntmps8
      go_wp2_with (first | (go_at_call 16; refine HK.out.mono ?_; rintro e w' ⟨rfl, hb0⟩) | (go_at_call 17; refine (HL _ (tab_below HT.out hb0)).out.mono ?_; rintro e w' ⟨rfl, hb1⟩) | (go_at_call 18; refine (HD _ (tab_below (tab_below HT.out hb0) hb1)).out.mono ?_; rintro e w' ⟨rfl, hb2⟩))
      go_ret2
      rw [HW.out.1, HW.out.2]
      refine ⟨?_, (hb0.trans (hb1.mono hb0.size)).trans (hb2.mono (hb0.trans (hb1.mono hb0.size)).size)⟩
      rw [← text_eq]
      simp only [← bs_append]
      rfl
end Go.Proofs.YtbhdehkdnenigaaDoor
