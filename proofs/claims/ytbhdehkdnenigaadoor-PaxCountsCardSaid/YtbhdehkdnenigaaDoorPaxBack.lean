/- Walk: the law PaxBack returns true. -/
import Derived.Test.YtbhdehkdnenigaaDoorPaxLaws
set_option linter.unusedVariables false
set_option linter.unusedSimpArgs false
namespace Go.Proofs.YtbhdehkdnenigaaDoor
open Go.RowKit
attribute [local go_sem] bs_size bs_append bs_extract take_drop_len bs_toList

theorem write_len (k v : List UInt8) : (Pax.write k v).length ≤ k.length + v.length + 60 := by
  unfold Pax.write
  split
  · split
    · simp
    · rename_i h
      rw [Pax.text_length]
      have := dec_len_le (n := Pax.lenOf (k.length + v.length + 3)) (by omega)
      omega
  · simp
theorem cut_num (c : Int) (n : Nat) (h : 0 < n) (hb : n ≤ 9223372036854775807) : ∃ x : Nat, wrap64 ((IntKind.u64.wrap c).tmod (n : Int)) = (x : Int) ∧ x < n := by
  have h0 : 0 ≤ IntKind.u64.wrap c := Int.emod_nonneg c (by decide)
  have h1 := Int.emod_nonneg (IntKind.u64.wrap c) (show (n : Int) ≠ 0 by omega)
  have h2 := Int.emod_lt_of_pos (IntKind.u64.wrap c) (show (0 : Int) < n by omega)
  rw [Int.tmod_eq_emod_of_nonneg h0]
  refine ⟨(IntKind.u64.wrap c % (n : Int)).toNat, ?_, by omega⟩
  rw [show ((IntKind.u64.wrap c % (n : Int)).toNat : Int) = IntKind.u64.wrap c % (n : Int) from by omega]
  generalize IntKind.u64.wrap c % (n : Int) = y at *
  unfold wrap64
  omega
theorem bs_isEmpty (l : List UInt8) : (bs l).toList.isEmpty = l.isEmpty := by rw [bs_toList]
set_option maxRecDepth 100000 in
set_option maxHeartbeats 1000000 in
theorem paxBack_any (k v p q : List UInt8) (c : Int) (w : World) (hk : k.length ≤ 140737488355328) (hv : v.length ≤ 140737488355328) (hp : p.length ≤ 140737488355328) (hq : q.length ≤ 140737488355328) (hc0 : -9223372036854775808 ≤ c) (hc1 : c ≤ 9223372036854775807) (h : Tab w) : Calls Tryd.prog 5 #[.string (bs k), .string (bs v), .string (bs p), .string (bs q), .int .i64 c] w fun e w' => e = .returned (.bool true) ∧ Below w.heap.size w w' := by
  have HT := Lib.hid h
  clear h
  have hr := fun w' => right_any (bs k) w' (by rw [bs_size]; omega)
  rw [bs_data] at hr
  have hw := fun w' h => paxWrite_any k v w' (by omega) (by omega) h
  by_cases he : Pax.writeE k v = 0
  · have hrec := Pax.rec_write he
    rw [he] at hw
    have hkey := hrec.key
    rw [hkey] at hr
    have HR := fun w' => Lib.hid (hr w')
    have hrl := (hrec.text (by have := write_len k v; omega)).2.2.2
    have hlen := write_len k v
    generalize hW : Pax.write k v = r at *
    have H1 : ∀ w' (h : Tab w'), Hid (Calls Tryd.prog 11 #[.string (bs (p ++ (r ++ q))), .int .i64 (p.length : Int)] w' fun e w'' => e = .returned (.tuple #[.string (bs k), .string (bs v), .int .i64 ((p.length : Int) + r.length), .int .i64 0]) ∧ Below w'.heap.size w' w'') := by
      intro w' h
      have := paxRead_any (p ++ (r ++ q)) p.length w' (by simp; omega) h
      have hd : (p ++ (r ++ q)).drop p.length = r ++ q := by rw [List.drop_left]
      have e : readAny (p ++ (r ++ q)) p.length Pax.readProg = .tuple #[.string (bs k), .string (bs v), .int .i64 ((p.length : Int) + r.length), .int .i64 0] := by
        unfold readAny
        rw [if_neg (by simp; omega), if_neg (by simp; omega), Int.toNat_natCast, hd, Pax.rec_readProg hrec.more (by simp; omega)]
        rfl
      rw [e] at this
      exact this
    have H2 : ∀ (n : Nat) w' (h : Tab w'), 0 < n → n < r.length → Hid (Calls Tryd.prog 11 #[.string (bs (p ++ r.take n)), .int .i64 (p.length : Int)] w' fun e w'' => e = .returned (.tuple #[.string ⟨#[]⟩, .string ⟨#[]⟩, .int .i64 0, .int .i64 4]) ∧ Below w'.heap.size w' w'') := by
      intro n w' h h0 h1
      have := paxRead_any (p ++ r.take n) p.length w' (by simp; omega) h
      have e : readAny (p ++ r.take n) p.length Pax.readProg = .tuple #[.string ⟨#[]⟩, .string ⟨#[]⟩, .int .i64 0, .int .i64 4] := by
        unfold readAny
        rw [if_neg (by simp; omega), if_neg (by simp; omega), Int.toNat_natCast, List.drop_left]
        cases hx : Pax.readProg (r.take n) with
        | none => rfl
        | some x =>
          obtain ⟨k', v', n'⟩ := x
          have hr' := Pax.readProg_rec hx
          have hu := (hr'.more (t := r.drop n))
          rw [List.take_append_drop] at hu
          have := hrec.unique hu (by omega)
          have hl := hr'.l
          rw [List.length_take] at hl
          omega
      rw [e] at this
      exact this
    have H3 : ∀ w' (h : Tab w'), Hid (Calls Tryd.prog 11 #[.string (bs p), .int .i64 (p.length : Int)] w' fun e w'' => e = .returned (.tuple #[.string ⟨#[]⟩, .string ⟨#[]⟩, .int .i64 0, .int .i64 5]) ∧ Below w'.heap.size w' w'') := by
      intro w' h
      have := paxRead_any p p.length w' (by omega) h
      have e : readAny p p.length Pax.readProg = .tuple #[.string ⟨#[]⟩, .string ⟨#[]⟩, .int .i64 0, .int .i64 5] := by
        unfold readAny
        rw [if_neg (by simp), if_pos rfl]
        rfl
      rw [e] at this
      exact this
    have HW := fun w' h => Lib.hid (hw w' h)
    have hrp : 0 < r.length := by omega
    have hrb : r.length ≤ 1048576 := by have := (hrec.text (by omega)).2.1; omega
    have d1 : (r.length == 0) = false := beq_eq_false_iff_ne.2 (by omega)
    obtain ⟨x, hx, hxl⟩ := cut_num c r.length hrp (by omega)
    clear hw hr he hkey hrec hW hrl hlen
    by_cases hx0 : x = 0
    · subst hx0
      go_enter Tryd.func5, Tryd.ntmps5
      go_wp2_with fail
      refine (first_any _ HT.out).mono ?_
      rintro e1 v1 ⟨rfl, hb1⟩
      have HT1 := Lib.hid (tab_below HT.out hb1)
      go_wp2_with fail
      refine (HW _ HT1.out).out.mono ?_
      rintro e2 v2 ⟨rfl, hb2⟩
      go_wp2_with fail
      have HT2 := Lib.hid (tab_below HT1.out hb2)
      refine (H1 _ HT2.out).out.mono ?_
      rintro e3 v3 ⟨rfl, hb3⟩
      have HT3 := Lib.hid (tab_below HT2.out hb3)
      go_wp2_with fail
      refine (HR _).out.mono ?_
      rintro e4 v4 ⟨rfl, rfl⟩
      go_wp2_with fail
      refine (H3 _ HT3.out).out.mono ?_
      rintro e5 v5 ⟨rfl, hb5⟩
      go_wp2
      go_ret
      exact ⟨rfl, bel (bel (bel hb1 hb2) hb3) hb5⟩
    · have x0 : ((x : Int) == 0) = false := beq_eq_false_iff_ne.2 (by omega)
      have x1 : decide ((x : Int) ≤ (r.length : Int)) = true := by simp; omega
      have H4 := fun w' h => H2 x w' h (by omega) hxl
      clear H2
      go_enter Tryd.func5, Tryd.ntmps5
      go_wp2_with fail
      refine (first_any _ HT.out).mono ?_
      rintro e1 v1 ⟨rfl, hb1⟩
      have HT1 := Lib.hid (tab_below HT.out hb1)
      go_wp2_with fail
      refine (HW _ HT1.out).out.mono ?_
      rintro e2 v2 ⟨rfl, hb2⟩
      go_wp2_with fail
      have HT2 := Lib.hid (tab_below HT1.out hb2)
      refine (H1 _ HT2.out).out.mono ?_
      rintro e3 v3 ⟨rfl, hb3⟩
      have HT3 := Lib.hid (tab_below HT2.out hb3)
      go_wp2_with fail
      refine (HR _).out.mono ?_
      rintro e4 v4 ⟨rfl, rfl⟩
      go_wp2_with fail
      refine (H4 _ HT3.out).out.mono ?_
      rintro e5 v5 ⟨rfl, hb5⟩
      go_wp2
      go_ret
      exact ⟨rfl, bel (bel (bel hb1 hb2) hb3) hb5⟩
  · obtain ⟨h1, ⟨h2, h3⟩ | ⟨h2, h3, h4⟩⟩ := Pax.write_bad he
    · rw [h1, h2] at hw
      rw [h3] at hr
      have HW : ∀ w' (h : Tab w'), Hid (Calls Tryd.prog 8 #[.string (bs k), .string (bs v)] w' fun e w'' => e = .returned (.tuple #[.string ⟨#[]⟩, .int .i64 1]) ∧ Below w'.heap.size w' w'') := hw
      have HR := fun w' => Lib.hid (hr w')
      clear hw hr he h1 h2 h3
      go_enter Tryd.func5, Tryd.ntmps5
      go_wp2_with fail
      refine (first_any _ HT.out).mono ?_
      rintro e1 v1 ⟨rfl, hb1⟩
      have HT1 := Lib.hid (tab_below HT.out hb1)
      go_wp2_with fail
      refine (HW _ HT1.out).out.mono ?_
      rintro e2 v2 ⟨rfl, hb2⟩
      go_wp2_with fail
      refine (HR _).out.mono ?_
      rintro e3 v3 ⟨rfl, rfl⟩
      go_wp2
      go_ret
      exact ⟨rfl, bel hb1 hb2⟩
    · rw [h1, h2] at hw
      rw [h3] at hr
      have h5 := Pax.long_of h4
      have HW : ∀ w' (h : Tab w'), Hid (Calls Tryd.prog 8 #[.string (bs k), .string (bs v)] w' fun e w'' => e = .returned (.tuple #[.string ⟨#[]⟩, .int .i64 3]) ∧ Below w'.heap.size w' w'') := hw
      have HR := fun w' => Lib.hid (hr w')
      have b1 : decide ((1048564 : Int) < (k.length : Int) + v.length) = true := by simp; omega
      clear hw hr he h1 h2 h3 h4
      go_enter Tryd.func5, Tryd.ntmps5
      go_wp2_with fail
      refine (first_any _ HT.out).mono ?_
      rintro e1 v1 ⟨rfl, hb1⟩
      have HT1 := Lib.hid (tab_below HT.out hb1)
      go_wp2_with fail
      refine (HW _ HT1.out).out.mono ?_
      rintro e2 v2 ⟨rfl, hb2⟩
      go_wp2_with fail
      refine (HR _).out.mono ?_
      rintro e3 v3 ⟨rfl, rfl⟩
      go_wp2
      go_ret
      exact ⟨rfl, bel hb1 hb2⟩
end Go.Proofs.YtbhdehkdnenigaaDoor
