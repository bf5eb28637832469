/- Walks: the laws PaxWrites and PaxReads return true. -/
import Derived.Test.YtbhdehkdnenigaaDoorPaxFirst
set_option linter.unusedVariables false
set_option linter.unusedSimpArgs false
namespace Go.Proofs.YtbhdehkdnenigaaDoor
open Go.RowKit
attribute [local go_sem] bs_size bs_append bs_extract take_drop_len bs_toList

set_option maxHeartbeats 1000000 in
theorem paxWrites_any (k v : List UInt8) (w : World) (hk : k.length ≤ 1125899906842624) (hv : v.length ≤ 1125899906842624) (h : Tab w) : Calls Tryd.prog 3 #[.string (bs k), .string (bs v)] w fun e w' => e = .returned (.bool true) ∧ Below w.heap.size w w' := by
  have HT := Lib.hid h
  clear h
  go_enter Tryd.func3, Tryd.ntmps3
  go_wp2_with fail
  refine (paxWrite_any k v _ hk hv HT.out).mono ?_
  rintro e1 v1 ⟨rfl, hb1⟩
  have HT1 := Lib.hid (tab_below HT.out hb1)
  go_wp2_with fail
  refine (refWrite_any k v _ hk hv).mono ?_
  rintro e2 v2 ⟨rfl, hb2⟩
  have HT2 := Lib.hid (tab_below HT1.out hb2)
  go_wp2_with fail
  refine (first_any _ HT2.out).mono ?_
  rintro e3 v3 ⟨rfl, hb3⟩
  go_wp2
  go_ret
  exact ⟨rfl, bel (bel hb1 hb2) hb3⟩

theorem readAny_eq {l : List UInt8} (a : Int) (hb : l.length ≤ 1125899906842624) : readAny l a Pax.readProg = readAny l a Pax.readRef := by
  unfold readAny
  rw [Pax.read_eq (by rw [List.length_drop]; omega)]
theorem readAny_form (l : List UInt8) (a : Int) (r : List UInt8 → Option (List UInt8 × List UInt8 × Nat)) : ∃ k v n e, readAny l a r = .tuple #[.string (bs k), .string (bs v), .int .i64 n, .int .i64 e] := by
  unfold readAny
  split
  · exact ⟨_, _, _, _, rfl⟩
  · split
    · exact ⟨_, _, _, _, rfl⟩
    · unfold readRes
      split <;> exact ⟨_, _, _, _, rfl⟩
set_option maxHeartbeats 1000000 in
theorem paxReads_any (l : List UInt8) (a : Int) (w : World) (hl : l.length ≤ 1125899906842624) (h : Tab w) : Calls Tryd.prog 4 #[.string (bs l), .int .i64 a] w fun e w' => e = .returned (.bool true) ∧ Below w.heap.size w w' := by
  have HT := Lib.hid h
  clear h
  obtain ⟨k, v, n, e, hr⟩ := readAny_form l a Pax.readRef
  have hp := fun w' h => paxRead_any l a w' hl h
  have hq := fun w' => refRead_any l a w' hl
  rw [readAny_eq a hl, hr] at hp
  rw [hr] at hq
  have HP := fun w' h => Lib.hid (hp w' h)
  have HQ := fun w' => Lib.hid (hq w')
  clear hp hq hr
  go_enter Tryd.func4, Tryd.ntmps4
  go_wp2_with fail
  refine (HP _ HT.out).out.mono ?_
  rintro e1 v1 ⟨rfl, hb1⟩
  have HT1 := Lib.hid (tab_below HT.out hb1)
  go_wp2_with fail
  refine (HQ _).out.mono ?_
  rintro e2 v2 ⟨rfl, hb2⟩
  have HT2 := Lib.hid (tab_below HT1.out hb2)
  go_wp2_with fail
  refine (first_any _ HT2.out).mono ?_
  rintro e3 v3 ⟨rfl, hb3⟩
  go_wp2
  go_ret
  exact ⟨rfl, bel (bel hb1 hb2) hb3⟩
end Go.Proofs.YtbhdehkdnenigaaDoor
