/- Walk: names.small (a range over a text). -/
import Derived.Test.YtbhdehkdnenigaaDNames
set_option linter.unusedVariables false
set_option linter.unusedSimpArgs false
namespace Go.Proofs.Ytbhdehkdnenigaa
open Go.RowKit Go.Proofs.YtbhdehkdnenigaaW.PrintWords
theorem below_iterAt {w wr : World} (h : Below w.heap.size w wr) (s : ByteArray) (p : Nat) : Below w.heap.size w (wr.iterAt w.heap.size s p) :=
  ⟨h.os, h.tape, h.output, by rw [Lib.iterAt_size]; exact h.size, fun i hi => (Lib.iterAt_other wr w.heap.size i s p (by omega)).trans (h.block i hi)⟩
def SmTo (s : ByteArray) (i : Nat) : Prop := ∀ j (hj : j < s.size), j < i → isSm (s[j]'hj).toNat = true
theorem SmTo.all {s : ByteArray} (h : SmTo s s.size) : smB s = true := by
  unfold smB
  rw [List.all_eq_true]
  intro c hc
  obtain ⟨k, hk, rfl⟩ := List.mem_iff_getElem.1 hc
  exact h k (by simpa using hk) (by simpa using hk)
theorem toList_isEmpty (s : ByteArray) : s.toList.isEmpty = !decide (1 ≤ s.size) := by
  rw [Lib.toList_data]
  have h : s.data.toList.length = s.size := by simp
  cases hl : s.data.toList with
  | nil => rw [hl] at h; simp at h; simp [← h]
  | cons a r => rw [hl] at h; simp at h; simp [← h]
set_option maxHeartbeats 1000000 in
theorem small_any (s : ByteArray) (most : Int) (w : World) (hs : s.size ≤ 9223372036854775807) : Calls Try.prog 59 #[.string s, .int .i64 most] w fun e w' => e = .returned (.bool (sml s most)) ∧ Below w.heap.size w w' := by
  go_enter Try.func59, Try.ntmps59
  go_wp2
  go_loopg [4] s.size (fun g _ wx => ∃ i : Nat, i + g = s.size ∧ Hid (wx.heap[w.heap.size]? = some (.stringIter s i)) ∧ Hid (SmTo s i) ∧ Below w.heap.size w wx)
  case atStart => exact ⟨0, by omega, World.iter_heap w s 0, fun j _ h => absurd h (Nat.not_lt_zero _), (Below.refl _ _).alloc (Nat.le_refl _) _⟩
  case round =>
    obtain ⟨i, hig, HK, HN, hb⟩ := hrel
    cases gk with
    | zero =>
      obtain rfl : i = s.size := by omega
      have hnx := fun ty => Lib.run_next_end_at (P := Try.prog) wr w.heap.size s s.size ty HK.out (by omega)
      have HA := Lib.hid HN.out.all
      have hne := toList_isEmpty s
      by_cases h1 : 1 ≤ s.size
      · rw [decide_eq_true h1] at hne
        have b2 : Hid (decide ((s.size : Int) ≤ most) = sml s most) := by
          show _ = _
          simp [sml, HA.out, h1]
        go_wp2
        go_ret
        exact ⟨ret_bool b2.out, hb⟩
      · rw [decide_eq_false h1] at hne
        have b2 : Hid (false = sml s most) := by
          show _ = _
          simp [sml, h1]
        go_wp2
        go_ret
        exact ⟨ret_bool b2.out, hb⟩
    | succ g =>
      have hi : i < s.size := by omega
      by_cases hc : (s[i]'hi).toNat < 128
      · have hnx := fun ty => Lib.run_next_ascii_at (P := Try.prog) wr w.heap.size s i ty HK.out hi hc
        have hb2 := below_iterAt hb s (i + 1)
        have hk2 := Lib.hid (Lib.iterAt_heap wr w.heap.size s i (i + 1) HK.out)
        cases hsm : isSm (s[i]'hi).toNat with
        | true =>
          have HS := Lib.hid hsm
          simp only [isSm, Bool.or_eq_true, Bool.and_eq_true, beq_iff_eq, decide_eq_true_eq] at hsm
          go_wp2
          all_goals first
            | (exfalso; (try simp only [bne_eq_false_iff_eq, bne_iff_ne] at *); omega)
            | (go_roundg g
               case measure => omega
               case rel => exact ⟨i + 1, by omega, hk2, fun j hj hlt => by
                 rcases (show j < i ∨ j = i by omega) with h | rfl
                 · exact HN.out j hj h
                 · exact HS.out, hb2⟩)
        | false =>
          have HS := Lib.hid (smB_bad hi hsm)
          simp only [isSm, Bool.or_eq_false_iff, Bool.and_eq_false_iff, beq_eq_false_iff_ne, decide_eq_false_iff_not] at hsm
          go_wp2
          all_goals first
            | (exfalso; (try simp only [bne_eq_false_iff_eq, bne_iff_ne] at *); omega)
            | (go_ret
               exact ⟨ret_bool (by simp [sml, HS.out]), hb2⟩)
      · have hnx := fun ty => Lib.run_next_any_at (P := Try.prog) wr w.heap.size s i ty HK.out hi
        have hd := decode_high s i hi (by omega)
        have HS := Lib.hid (smB_bad hi (by simp [isSm]; omega))
        generalize (Utf8.decode s i).2 = wd at *
        generalize (Utf8.decode s i).1 = r at *
        have hb2 := below_iterAt hb s (i + wd)
        go_wp2
        all_goals first
            | (exfalso; (try simp only [bne_eq_false_iff_eq, bne_iff_ne] at *); omega)
            | (go_ret
               exact ⟨ret_bool (by simp [sml, HS.out]), hb2⟩)
end Go.Proofs.Ytbhdehkdnenigaa
