/- Walk: cofferlaw04.first returns true. -/
import Derived.Test.YtbhdehkdnenigaaDoorPaxW7
import Derived.Test.YtbhdehkdnenigaaDoorPaxLaw
set_option linter.unusedVariables false
set_option linter.unusedSimpArgs false
namespace Go.Proofs.YtbhdehkdnenigaaDoor
open Go.RowKit
attribute [local go_sem] bs_size bs_append bs_extract take_drop_len bs_toList
theorem bel {w W w2 : World} (h : Below w.heap.size w W) (k : Below W.heap.size W w2) : Below w.heap.size w w2 := h.trans (k.mono h.size)
abbrev Tab (w : World) : Prop := Lib.TabIs Tryd.prog w "internal/strconv.uint64pow10" .u64 Lib.pow10Tab

theorem dec9 : Pax.dec 9 = [57] := by rw [dec_small (by omega)]; rfl
theorem dec10 : (Pax.dec 10).length = 2 := by rw [dec_big (by omega), dec_small (by omega)]; rfl
theorem dec11 : Pax.dec 11 = [49, 49] := by rw [dec_big (by omega), dec_small (by omega)]; rfl
theorem dec6 : Pax.dec 6 = [54] := by rw [dec_small (by omega)]; rfl
theorem len8 : Pax.lenOf 8 = 9 := by unfold Pax.lenOf; rw [lenD_hit (by rw [dec9]; rfl)]
theorem len9 : Pax.lenOf 9 = 11 := by unfold Pax.lenOf; rw [lenD_miss (by rw [dec10]; decide), lenD_hit (by rw [dec11]; rfl)]
theorem len5 : Pax.lenOf 5 = 6 := by unfold Pax.lenOf; rw [lenD_hit (by rw [dec6]; rfl)]
theorem w1 : Pax.write [115, 105, 122, 101] [53] = [57, 32, 115, 105, 122, 101, 61, 53, 10] ∧ Pax.writeE [115, 105, 122, 101] [53] = 0 := by
  have hk : Pax.isKey [115, 105, 122, 101] = true := by decide
  simp [Pax.write, Pax.writeE, hk, len8, Pax.text, dec9]
theorem w2 : Pax.write [115, 105, 122, 101, 115] [53] = [49, 49, 32, 115, 105, 122, 101, 115, 61, 53, 10] ∧ Pax.writeE [115, 105, 122, 101, 115] [53] = 0 := by
  have hk : Pax.isKey [115, 105, 122, 101, 115] = true := by decide
  simp [Pax.write, Pax.writeE, hk, len9, Pax.text, dec11]
theorem w3 : Pax.write [97, 61] [] = [] ∧ Pax.writeE [97, 61] [] = 1 := by
  have hk : Pax.isKey [97, 61] = false := by decide
  simp [Pax.write, Pax.writeE, hk]
theorem w4 : Pax.write [97] [98] = [54, 32, 97, 61, 98, 10] ∧ Pax.writeE [97] [98] = 0 := by
  have hk : Pax.isKey [97] = true := by decide
  simp [Pax.write, Pax.writeE, hk, len5, Pax.text, dec6]
theorem r1 : readAny [120, 54, 32, 97, 61, 98, 10] 1 Pax.readProg = .tuple #[.string ⟨#[97]⟩, .string ⟨#[98]⟩, .int .i64 7, .int .i64 0] := by
  have h : Pax.readProg [54, 32, 97, 61, 98, 10] = some ([97], [98], 6) := Pax.rec_readProg ⟨w4.2, w4.1, by decide⟩ (by decide)
  show readRes (Pax.readProg [54, 32, 97, 61, 98, 10]) 1 = _
  rw [h]
  rfl
theorem r2 : readAny [48, 54, 32, 97, 61, 98, 10] 0 Pax.readProg = .tuple #[.string ⟨#[]⟩, .string ⟨#[]⟩, .int .i64 0, .int .i64 4] := by
  have h : Pax.readProg [48, 54, 32, 97, 61, 98, 10] = none := by decide
  show readRes (Pax.readProg [48, 54, 32, 97, 61, 98, 10]) 0 = _
  rw [h]
  rfl
theorem c1 (w : World) (h : Tab w) : Calls Tryd.prog 8 #[.string ⟨#[115, 105, 122, 101]⟩, .string ⟨#[53]⟩] w fun e w' => e = .returned (.tuple #[.string ⟨#[57, 32, 115, 105, 122, 101, 61, 53, 10]⟩, .int .i64 0]) ∧ Below w.heap.size w w' := by
  have := paxWrite_any [115, 105, 122, 101] [53] w (by decide) (by decide) h
  rw [w1.1, w1.2] at this
  exact this
theorem c2 (w : World) (h : Tab w) : Calls Tryd.prog 8 #[.string ⟨#[115, 105, 122, 101, 115]⟩, .string ⟨#[53]⟩] w fun e w' => e = .returned (.tuple #[.string ⟨#[49, 49, 32, 115, 105, 122, 101, 115, 61, 53, 10]⟩, .int .i64 0]) ∧ Below w.heap.size w w' := by
  have := paxWrite_any [115, 105, 122, 101, 115] [53] w (by decide) (by decide) h
  rw [w2.1, w2.2] at this
  exact this
theorem c3 (w : World) (h : Tab w) : Calls Tryd.prog 8 #[.string ⟨#[97, 61]⟩, .string ⟨#[]⟩] w fun e w' => e = .returned (.tuple #[.string ⟨#[]⟩, .int .i64 1]) ∧ Below w.heap.size w w' := by
  have := paxWrite_any [97, 61] [] w (by decide) (by decide) h
  rw [w3.1, w3.2] at this
  exact this
theorem c4 (w : World) (h : Tab w) : Calls Tryd.prog 11 #[.string ⟨#[120, 54, 32, 97, 61, 98, 10]⟩, .int .i64 1] w fun e w' => e = .returned (.tuple #[.string ⟨#[97]⟩, .string ⟨#[98]⟩, .int .i64 7, .int .i64 0]) ∧ Below w.heap.size w w' := by
  have := paxRead_any [120, 54, 32, 97, 61, 98, 10] 1 w (by decide) h
  rw [r1] at this
  exact this
theorem c5 (w : World) (h : Tab w) : Calls Tryd.prog 11 #[.string ⟨#[48, 54, 32, 97, 61, 98, 10]⟩, .int .i64 0] w fun e w' => e = .returned (.tuple #[.string ⟨#[]⟩, .string ⟨#[]⟩, .int .i64 0, .int .i64 4]) ∧ Below w.heap.size w w' := by
  have := paxRead_any [48, 54, 32, 97, 61, 98, 10] 0 w (by decide) h
  rw [r2] at this
  exact this
set_option maxHeartbeats 1000000 in
theorem first_any (w : World) (h : Tab w) : Calls Tryd.prog 10 #[] w fun e w' => e = .returned (.bool true) ∧ Below w.heap.size w w' := by
  have HT := Lib.hid h
  clear h
  go_enter Tryd.func10, Tryd.ntmps10
  go_wp2_with fail
  refine (c1 _ HT.out).mono ?_
  rintro e1 v1 ⟨rfl, hb1⟩
  have HT1 := Lib.hid (tab_below HT.out hb1)
  go_wp2_with fail
  refine (c2 _ HT1.out).mono ?_
  rintro e2 v2 ⟨rfl, hb2⟩
  have HT2 := Lib.hid (tab_below HT1.out hb2)
  go_wp2_with fail
  refine (c3 _ HT2.out).mono ?_
  rintro e3 v3 ⟨rfl, hb3⟩
  have HT3 := Lib.hid (tab_below HT2.out hb3)
  go_wp2_with fail
  refine (c4 _ HT3.out).mono ?_
  rintro e4 v4 ⟨rfl, hb4⟩
  have HT4 := Lib.hid (tab_below HT3.out hb4)
  go_wp2_with fail
  refine (c5 _ HT4.out).mono ?_
  rintro e5 v5 ⟨rfl, hb5⟩
  go_wp2
  go_ret
  exact ⟨rfl, bel (bel (bel (bel hb1 hb2) hb3) hb4) hb5⟩
end Go.Proofs.YtbhdehkdnenigaaDoor
