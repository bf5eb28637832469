/- Walk: the law PaxOne returns true. -/
import Derived.Test.YtbhdehkdnenigaaDoorPaxLaws
set_option linter.unusedVariables false
set_option linter.unusedSimpArgs false
namespace Go.Proofs.YtbhdehkdnenigaaDoor
open Go.RowKit
attribute [local go_sem] bs_size bs_append bs_extract take_drop_len bs_toList

set_option maxRecDepth 100000 in
set_option maxHeartbeats 1000000 in
theorem paxOne_any (l : List UInt8) (a : Int) (w : World) (hl : l.length ≤ 140737488355328) (h : Tab w) : Calls Tryd.prog 6 #[.string (bs l), .int .i64 a] w fun e w' => e = .returned (.bool true) ∧ Below w.heap.size w w' := by
  have HT := Lib.hid h
  clear h
  have hp := fun w' h => paxRead_any l a w' (by omega) h
  by_cases c1 : a < 0
  · have b1 : decide (a < 0) = true := by simp; omega
    have hr : readAny l a Pax.readProg = .tuple #[.string ⟨#[]⟩, .string ⟨#[]⟩, .int .i64 0, .int .i64 1] := by simp [readAny, c1, bs]
    have b3 : (a == (l.length : Int)) = false := by simp; omega
    rw [hr] at hp
    have HP := fun w' h => Lib.hid (hp w' h)
    clear hp hr
    go_enter Tryd.func6, Tryd.ntmps6
    go_wp2_with fail
    refine (first_any _ HT.out).mono ?_
    rintro e1 v1 ⟨rfl, hb1⟩
    have HT1 := Lib.hid (tab_below HT.out hb1)
    go_wp2_with fail
    refine (HP _ HT1.out).out.mono ?_
    rintro e2 v2 ⟨rfl, hb2⟩
    go_wp2
    go_ret
    exact ⟨rfl, bel hb1 hb2⟩
  have b1 : decide (a < 0) = false := by simp; omega
  by_cases c2 : (l.length : Int) < a
  · have b2 : decide ((l.length : Int) < a) = true := by simp; omega
    have hr : readAny l a Pax.readProg = .tuple #[.string ⟨#[]⟩, .string ⟨#[]⟩, .int .i64 0, .int .i64 1] := by simp [readAny, c2, bs]
    have b3 : (a == (l.length : Int)) = false := by simp; omega
    rw [hr] at hp
    have HP := fun w' h => Lib.hid (hp w' h)
    clear hp hr
    go_enter Tryd.func6, Tryd.ntmps6
    go_wp2_with fail
    refine (first_any _ HT.out).mono ?_
    rintro e1 v1 ⟨rfl, hb1⟩
    have HT1 := Lib.hid (tab_below HT.out hb1)
    go_wp2_with fail
    refine (HP _ HT1.out).out.mono ?_
    rintro e2 v2 ⟨rfl, hb2⟩
    go_wp2
    go_ret
    exact ⟨rfl, bel hb1 hb2⟩
  have b2 : decide ((l.length : Int) < a) = false := by simp; omega
  by_cases c3 : a = l.length
  · have b3 : (a == (l.length : Int)) = true := by simp [c3]
    have hr : readAny l a Pax.readProg = .tuple #[.string ⟨#[]⟩, .string ⟨#[]⟩, .int .i64 0, .int .i64 5] := by simp [readAny, c3, bs]
    rw [hr] at hp
    have HP := fun w' h => Lib.hid (hp w' h)
    clear hp hr c3 c2 c1
    go_enter Tryd.func6, Tryd.ntmps6
    go_wp2_with fail
    refine (first_any _ HT.out).mono ?_
    rintro e1 v1 ⟨rfl, hb1⟩
    have HT1 := Lib.hid (tab_below HT.out hb1)
    go_wp2_with fail
    refine (HP _ HT1.out).out.mono ?_
    rintro e2 v2 ⟨rfl, hb2⟩
    go_wp2
    go_ret
    exact ⟨rfl, bel hb1 hb2⟩
  have b3 : (a == (l.length : Int)) = false := by simp [c3]
  obtain ⟨n, rfl⟩ := Int.eq_ofNat_of_zero_le (show 0 ≤ a by omega)
  have hr : readAny l n Pax.readProg = readRes (Pax.readProg (l.drop n)) n := by simp [readAny, c1, c2, c3]
  rw [hr] at hp
  have b8 : decide (l.length < n) = false := by simp; omega
  have b9 : (n == l.length) = false := by simp; omega
  clear hr c1 c2 c3
  cases hc : Pax.readProg (l.drop n) with
  | none =>
    rw [hc] at hp
    have HP : ∀ w' h, Hid (Calls Tryd.prog 11 #[.string (bs l), .int .i64 n] w' fun e w'' => e = .returned (.tuple #[.string ⟨#[]⟩, .string ⟨#[]⟩, .int .i64 0, .int .i64 4]) ∧ Below w'.heap.size w' w'') := hp
    clear hp hc
    go_enter Tryd.func6, Tryd.ntmps6
    go_wp2_with fail
    refine (first_any _ HT.out).mono ?_
    rintro e1 v1 ⟨rfl, hb1⟩
    have HT1 := Lib.hid (tab_below HT.out hb1)
    go_wp2_with fail
    refine (HP _ HT1.out).out.mono ?_
    rintro e2 v2 ⟨rfl, hb2⟩
    go_wp2
    go_ret
    exact ⟨rfl, bel hb1 hb2⟩
  | some p =>
    obtain ⟨k, v, m⟩ := p
    rw [hc] at hp
    have hrec := Pax.readProg_rec hc
    have hlen := hrec.l
    rw [List.length_drop] at hlen
    obtain ⟨_, _, _, h4⟩ := hrec.text (by rw [List.length_drop]; omega)
    have hm : 1 ≤ m := by omega
    have HP : ∀ w' h, Hid (Calls Tryd.prog 11 #[.string (bs l), .int .i64 n] w' fun e w'' => e = .returned (.tuple #[.string (bs k), .string (bs v), .int .i64 ((n : Int) + m), .int .i64 0]) ∧ Below w'.heap.size w' w'') := hp
    have hw := fun w' h => paxWrite_any k v w' (by omega) (by omega) h
    rw [hrec.e, hrec.t] at hw
    have HW := fun w' h => Lib.hid (hw w' h)
    have b4 : decide ((n : Int) + m ≤ n) = false := by simp; omega
    have b5 : decide ((l.length : Int) < (n : Int) + m) = false := by simp; omega
    have b6 : ((n : Int) + m).toNat = n + m := by omega
    have b7 : n + m - n = m := by omega
    clear hp hc hw hrec h4
    go_enter Tryd.func6, Tryd.ntmps6
    go_wp2_with fail
    refine (first_any _ HT.out).mono ?_
    rintro e1 v1 ⟨rfl, hb1⟩
    have HT1 := Lib.hid (tab_below HT.out hb1)
    go_wp2_with fail
    refine (HP _ HT1.out).out.mono ?_
    rintro e2 v2 ⟨rfl, hb2⟩
    have HT2 := Lib.hid (tab_below HT1.out hb2)
    go_wp2_with fail
    refine (HW _ HT2.out).out.mono ?_
    rintro e3 v3 ⟨rfl, hb3⟩
    go_wp2
    go_ret
    exact ⟨rfl, bel (bel hb1 hb2) hb3⟩
end Go.Proofs.YtbhdehkdnenigaaDoor
