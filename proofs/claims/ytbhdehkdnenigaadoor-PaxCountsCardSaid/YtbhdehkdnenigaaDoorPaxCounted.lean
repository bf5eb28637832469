/- Walk: the law PaxCounts returns true. -/
import Derived.Test.YtbhdehkdnenigaaDoorPaxCounts
import Derived.Deep.OwnRows
set_option linter.unusedVariables false
set_option linter.unusedSimpArgs false
namespace Go.Proofs.YtbhdehkdnenigaaDoor
open Go.RowKit
attribute [local go_sem] bs_size bs_append bs_extract take_drop_len bs_toList

def tl (k v : List UInt8) : List UInt8 := 32 :: (k ++ 61 :: (v ++ [10]))
theorem tl_lit (k v : List UInt8) : (⟨#[32]⟩ : ByteArray) ++ bs k ++ ⟨#[61]⟩ ++ bs v ++ ⟨#[10]⟩ = bs (tl k v) := by
  rw [show (⟨#[32]⟩ : ByteArray) = bs [32] from rfl, show (⟨#[61]⟩ : ByteArray) = bs [61] from rfl, show (⟨#[10]⟩ : ByteArray) = bs [10] from rfl]
  simp only [bs_append]
  simp [tl]
theorem tl_length (k v : List UInt8) : (tl k v).length = k.length + v.length + 3 := by simp [tl]; omega
attribute [local go_sem] tl_lit
namespace Pax
theorem space_dec (n : Nat) : (32 : UInt8) ∉ dec n := by
  intro h
  have := List.all_eq_true.1 (dec_digits n).1 _ h
  simp [isDig] at this
theorem dec_cut {n m : Nat} {a b : List UInt8} (h : dec n ++ 32 :: a = dec m ++ 32 :: b) : n = m ∧ a = b := by
  have h1 := cut1_mk (c := 32) a (space_dec n)
  rw [h, cut1_mk (c := 32) b (space_dec m)] at h1
  injection h1 with h1
  injection h1 with h1 h2
  have := congrArg val h1
  rw [(dec_digits m).2, (dec_digits n).2] at this
  exact ⟨this.symm, h2.symm⟩
/-- the text of another number is no record -/
theorem other_none {k v : List UInt8} {M : Nat} (hk : isKey k = true) (hM : M ≠ lenOf (k.length + v.length + 3)) (hl : (dec M).length + (k.length + v.length + 3) = M) (hb : M ≤ 1125899906842624) : readProg (text M k v) = none := by
  cases hx : readProg (text M k v) with
  | none => rfl
  | some x =>
    obtain ⟨k', v', n'⟩ := x
    have hr := readProg_rec hx
    have hlen : (text M k v).length = M := by rw [text_length]; exact hl
    have hsp := hr.split (by omega)
    have ht := hr.text (by omega)
    rw [text, text] at hsp
    rw [List.append_assoc, List.cons_append] at hsp
    obtain ⟨h1, h2⟩ := dec_cut hsp
    subst h1
    rw [List.drop_of_length_le (by rw [← text]; omega), List.append_nil] at h2
    have hc := cut1_mk (c := 61) (v ++ [10]) (not_mem_key hk)
    rw [h2, cut1_mk (c := 61) (v' ++ [10]) (not_mem_key hr.key)] at hc
    injection hc with hc
    injection hc with h3 h4
    have h5 := List.append_cancel_right h4
    subst h3
    subst h5
    exact absurd ht.1 hM
theorem len_least {n d : Nat} (hn : n ≤ 1125899906842624) (hd : lenOf n = n + d) (h1 : 1 < d) : nd (n + d - 1) ≠ d - 1 := by
  intro h
  have e : nd (n + d - 1) = (dec (n + (d - 1))).length := by
    unfold nd
    rw [if_neg (by omega), dec_length, show n + d - 1 = n + (d - 1) from by omega]
  have := lenD_le (n := n) (d - 1) (by omega) 24 1 (dec_len_pos _) (by omega) (by
    have := dec_len_le (n := n + (d - 1)) (by have := lenOf_bound n; omega)
    omega)
  unfold lenOf at hd
  omega
end Pax
set_option maxRecDepth 100000 in
set_option maxHeartbeats 1000000 in
theorem paxCounts_any (k : List UInt8) (a : Int) (w : World) (hk : k.length ≤ 140737488355328) (h : Tab w) : Calls Tryd.prog 7 #[.string (bs k), .int .i64 a] w fun e w' => e = .returned (.bool true) ∧ Below w.heap.size w w' := by
  have HT := Lib.hid h
  clear h
  obtain ⟨x, hx, hx1⟩ := bits_14 a
  have hmk := fun W => run_make_row' (P := Tryd.prog) 33 5 (.int .u8 0) 1 Tryd.underlying33 (by kernel_rfl) rfl .i64 .i64 x (by omega) (by omega) W
  have hcv := fun W t => conv_made (P := Tryd.prog) (src := 33) (dst := 9) Tryd.underlying33 Tryd.underlying5 Tryd.underlying9 W x t
  have hr := fun w' => right_any (bs k) w' (by rw [bs_size]; omega)
  rw [bs_data] at hr
  generalize hv : List.replicate x (0 : UInt8) = v at *
  have hvl : v.length = x := by rw [← hv]; simp
  clear hv
  subst hvl
  have hw := fun w' h => paxWrite_any k v w' (by omega) (by omega) h
  by_cases he : Pax.writeE k v = 0
  · have hrec := Pax.rec_write he
    rw [he] at hw
    have hkey := hrec.key
    obtain ⟨hN, hN1, ht, hNl⟩ := hrec.text (by have := write_len k v; omega)
    rw [List.take_length] at ht
    rw [hkey] at hr
    have HR := fun w' => Lib.hid (hr w')
    generalize hd : (Pax.dec (Pax.write k v).length).length = d at *
    have hd0 := dec_len_pos (Pax.write k v).length
    generalize hW : Pax.write k v = r at *
    have HW := fun w' h => Lib.hid (hw w' h)
    have H1 : ∀ w', Hid (Calls Tryd.prog 15 #[.int .i64 r.length] w' fun e w'' => e = .returned (.int .i64 d) ∧ w' = w'') := fun w' => by
      have := digits_any r.length w' (by omega)
      rw [show nd r.length = d from by unfold nd; rw [if_neg (by omega), ← dec_length, hd]] at this
      exact this
    have H2 : ∀ w', Hid (Calls Tryd.prog 14 #[.int .i64 r.length] w' fun e w'' => e = .returned (.string (bs (Pax.dec r.length))) ∧ Below w'.heap.size w' w'') := fun w' => decimal14_any r.length w' (by omega)
    have b1 : decide ((r.length : Int) - ((k.length : Int) + v.length + 3) < 1) = false := by simp; omega
    have HTE := Lib.hid ht
    have HE : Pax.dec r.length ++ tl k v = r := ht.symm
    have hq : ¬ 9223372036854775807 < (Pax.dec r.length).length + (tl k v).length := by rw [tl_length]; omega
    have b2 : ((d : Int) == (r.length : Int) - ((k.length : Int) + v.length + 3)) = true := by simp; omega
    have HN := Lib.hid hN
    have HL := Lib.hid hNl
    have hNb := hN1
    have H4 : ∀ w' (z : Int), z = ((r.length + 1 : Nat) : Int) → Hid (Calls Tryd.prog 15 #[.int .i64 z] w' fun e w'' => e = .returned (.int .i64 (nd (r.length + 1))) ∧ w' = w'') := fun w' z hz => by
      subst hz
      exact digits_any (r.length + 1) w' (by omega)
    have H5 : ∀ w' (z : Int), z = ((r.length + 1 : Nat) : Int) → Hid (Calls Tryd.prog 14 #[.int .i64 z] w' fun e w'' => e = .returned (.string (bs (Pax.dec (r.length + 1)))) ∧ Below w'.heap.size w' w'') := fun w' z hz => by
      subst hz
      exact decimal14_any (r.length + 1) w' (by omega)
    have H6 : nd (r.length + 1) = d + 1 → ∀ w' (h : Tab w'), Hid (Calls Tryd.prog 11 #[.string (bs (Pax.dec (r.length + 1) ++ tl k v)), .int .i64 0] w' fun e w'' => e = .returned (.tuple #[.string ⟨#[]⟩, .string ⟨#[]⟩, .int .i64 0, .int .i64 4]) ∧ Below w'.heap.size w' w'') := by
      intro hn w' h
      have hl : (Pax.dec (r.length + 1)).length = d + 1 := by rw [dec_length, ← hn]; unfold nd; rw [if_neg (by omega)]
      have := paxRead_any (Pax.dec (r.length + 1) ++ tl k v) 0 w' (by rw [List.length_append, tl_length]; omega) h
      have e : readAny (Pax.dec (r.length + 1) ++ tl k v) 0 Pax.readProg = .tuple #[.string ⟨#[]⟩, .string ⟨#[]⟩, .int .i64 0, .int .i64 4] := by
        unfold readAny
        rw [if_neg (by rw [List.length_append, tl_length]; omega), if_neg (by rw [List.length_append, tl_length]; omega)]
        show readRes (Pax.readProg (Pax.text (r.length + 1) k v)) 0 = _
        rw [Pax.other_none hkey (by omega) (by omega) (by omega)]
        rfl
      rw [e] at this
      exact this
    have H3 : 1 < d → ∀ w' (z : Int), z = ((r.length - 1 : Nat) : Int) → Hid (Calls Tryd.prog 15 #[.int .i64 z] w' fun e w'' => e = .returned (.int .i64 (nd (r.length - 1))) ∧ w' = w'') := fun hd w' z hz => by
      subst hz
      exact digits_any (r.length - 1) w' (by omega)
    have b3 : 1 < d → (((nd (r.length - 1) : Nat) : Int) == (r.length : Int) - ((k.length : Int) + v.length + 3) - 1) = false := fun h1 => by
      have := Pax.len_least (n := k.length + v.length + 3) (d := d) (by omega) (by omega) h1
      rw [show k.length + v.length + 3 + d - 1 = r.length - 1 from by omega] at this
      exact beq_eq_false_iff_ne.2 (by omega)
    have hq2 : ¬ 9223372036854775807 < (Pax.dec (r.length + 1)).length + (tl k v).length := by have := dec_len_le (n := r.length + 1) (by omega); rw [tl_length]; omega
    have hdl : (d : Int) = (r.length : Int) - ((k.length : Int) + v.length + 3) := by omega
    clear hw hr hkey hrec ht hN hW he
    by_cases c2 : 1 < d
    · have H3 := H3 c2
      have b3 := b3 c2
      have b4 : decide ((1 : Int) < (r.length : Int) - ((k.length : Int) + v.length + 3)) = true := by simp; omega
      by_cases c3 : nd (r.length + 1) = d + 1
      · have H6 := H6 c3
        have b5 : (((nd (r.length + 1) : Nat) : Int) == (r.length : Int) - ((k.length : Int) + v.length + 3) + 1) = true := beq_iff_eq.2 (by omega)
        have HDL := Lib.hid hdl
        clear c2 c3 hdl hNl hd
        go_enter Tryd.func7, Tryd.ntmps7
        go_wp2_with fail
        refine (first_any _ HT.out).mono ?_
        rintro e1 v1 ⟨rfl, hb1⟩
        have HT1 := Lib.hid (tab_below HT.out (hb1.alloc hb1.size (.cells (madeCells #[.int .u8 0] v.length) 5)))
        go_wp2_with fail
        refine (HW _ HT1.out).out.mono ?_
        rintro e2 v2 ⟨rfl, hb2⟩
        have HT2 := Lib.hid (tab_below HT1.out hb2)
        go_wp2_with fail
        refine (H2 _).out.mono ?_
        rintro e3 v3 ⟨rfl, hb3⟩
        have HT3 := Lib.hid (tab_below HT2.out hb3)
        go_wp2_with fail
        refine (H1 _).out.mono ?_
        rintro e4 v4 ⟨rfl, rfl⟩
        go_wp2_with fail
        refine (H3 _ _ (by have := HDL.out; omega)).out.mono ?_
        rintro e5 v5 ⟨rfl, rfl⟩
        go_wp2_with fail
        refine (H4 _ _ (by have := HDL.out; omega)).out.mono ?_
        rintro e6 v6 ⟨rfl, rfl⟩
        go_wp2_with fail
        refine (H5 _ _ (by have := HDL.out; omega)).out.mono ?_
        rintro e7 v7 ⟨rfl, hb7⟩
        have HT7 := Lib.hid (tab_below HT3.out hb7)
        go_wp2_with fail
        refine (H6 _ HT7.out).out.mono ?_
        rintro e8 v8 ⟨rfl, hb8⟩
        go_wp2
        go_ret
        exact ⟨rfl, bel (bel (bel (bel (hb1.alloc hb1.size _) hb2) hb3) hb7) hb8⟩
      · clear H6
        have b5 : (((nd (r.length + 1) : Nat) : Int) == (r.length : Int) - ((k.length : Int) + v.length + 3) + 1) = false := beq_eq_false_iff_ne.2 (by omega)
        have HDL := Lib.hid hdl
        clear c2 c3 hdl hNl hd
        go_enter Tryd.func7, Tryd.ntmps7
        go_wp2_with fail
        refine (first_any _ HT.out).mono ?_
        rintro e1 v1 ⟨rfl, hb1⟩
        have HT1 := Lib.hid (tab_below HT.out (hb1.alloc hb1.size (.cells (madeCells #[.int .u8 0] v.length) 5)))
        go_wp2_with fail
        refine (HW _ HT1.out).out.mono ?_
        rintro e2 v2 ⟨rfl, hb2⟩
        have HT2 := Lib.hid (tab_below HT1.out hb2)
        go_wp2_with fail
        refine (H2 _).out.mono ?_
        rintro e3 v3 ⟨rfl, hb3⟩
        have HT3 := Lib.hid (tab_below HT2.out hb3)
        go_wp2_with fail
        refine (H1 _).out.mono ?_
        rintro e4 v4 ⟨rfl, rfl⟩
        go_wp2_with fail
        refine (H3 _ _ (by have := HDL.out; omega)).out.mono ?_
        rintro e5 v5 ⟨rfl, rfl⟩
        go_wp2_with fail
        refine (H4 _ _ (by have := HDL.out; omega)).out.mono ?_
        rintro e6 v6 ⟨rfl, rfl⟩
        go_wp2
        go_ret
        exact ⟨rfl, bel (bel (hb1.alloc hb1.size _) hb2) hb3⟩
    · clear H3 b3
      have b4 : decide ((1 : Int) < (r.length : Int) - ((k.length : Int) + v.length + 3)) = false := by simp; omega
      by_cases c3 : nd (r.length + 1) = d + 1
      · have H6 := H6 c3
        have b5 : (((nd (r.length + 1) : Nat) : Int) == (r.length : Int) - ((k.length : Int) + v.length + 3) + 1) = true := beq_iff_eq.2 (by omega)
        have HDL := Lib.hid hdl
        clear c2 c3 hdl hNl hd
        go_enter Tryd.func7, Tryd.ntmps7
        go_wp2_with fail
        refine (first_any _ HT.out).mono ?_
        rintro e1 v1 ⟨rfl, hb1⟩
        have HT1 := Lib.hid (tab_below HT.out (hb1.alloc hb1.size (.cells (madeCells #[.int .u8 0] v.length) 5)))
        go_wp2_with fail
        refine (HW _ HT1.out).out.mono ?_
        rintro e2 v2 ⟨rfl, hb2⟩
        have HT2 := Lib.hid (tab_below HT1.out hb2)
        go_wp2_with fail
        refine (H2 _).out.mono ?_
        rintro e3 v3 ⟨rfl, hb3⟩
        have HT3 := Lib.hid (tab_below HT2.out hb3)
        go_wp2_with fail
        refine (H1 _).out.mono ?_
        rintro e4 v4 ⟨rfl, rfl⟩
        go_wp2_with fail
        refine (H4 _ _ (by have := HDL.out; omega)).out.mono ?_
        rintro e6 v6 ⟨rfl, rfl⟩
        go_wp2_with fail
        refine (H5 _ _ (by have := HDL.out; omega)).out.mono ?_
        rintro e7 v7 ⟨rfl, hb7⟩
        have HT7 := Lib.hid (tab_below HT3.out hb7)
        go_wp2_with fail
        refine (H6 _ HT7.out).out.mono ?_
        rintro e8 v8 ⟨rfl, hb8⟩
        go_wp2
        go_ret
        exact ⟨rfl, bel (bel (bel (bel (hb1.alloc hb1.size _) hb2) hb3) hb7) hb8⟩
      · clear H6
        have b5 : (((nd (r.length + 1) : Nat) : Int) == (r.length : Int) - ((k.length : Int) + v.length + 3) + 1) = false := beq_eq_false_iff_ne.2 (by omega)
        have HDL := Lib.hid hdl
        clear c2 c3 hdl hNl hd
        go_enter Tryd.func7, Tryd.ntmps7
        go_wp2_with fail
        refine (first_any _ HT.out).mono ?_
        rintro e1 v1 ⟨rfl, hb1⟩
        have HT1 := Lib.hid (tab_below HT.out (hb1.alloc hb1.size (.cells (madeCells #[.int .u8 0] v.length) 5)))
        go_wp2_with fail
        refine (HW _ HT1.out).out.mono ?_
        rintro e2 v2 ⟨rfl, hb2⟩
        have HT2 := Lib.hid (tab_below HT1.out hb2)
        go_wp2_with fail
        refine (H2 _).out.mono ?_
        rintro e3 v3 ⟨rfl, hb3⟩
        have HT3 := Lib.hid (tab_below HT2.out hb3)
        go_wp2_with fail
        refine (H1 _).out.mono ?_
        rintro e4 v4 ⟨rfl, rfl⟩
        go_wp2_with fail
        refine (H4 _ _ (by have := HDL.out; omega)).out.mono ?_
        rintro e6 v6 ⟨rfl, rfl⟩
        go_wp2
        go_ret
        exact ⟨rfl, bel (bel (hb1.alloc hb1.size _) hb2) hb3⟩
  · obtain ⟨h1, ⟨h2, h3⟩ | ⟨h2, h3, h4⟩⟩ := Pax.write_bad he
    · rw [h1, h2] at hw
      rw [h3] at hr
      have HW : ∀ w' (h : Tab w'), Hid (Calls Tryd.prog 8 #[.string (bs k), .string (bs v)] w' fun e w'' => e = .returned (.tuple #[.string ⟨#[]⟩, .int .i64 1]) ∧ Below w'.heap.size w' w'') := hw
      have HR := fun w' => Lib.hid (hr w')
      clear hw hr he h1 h2 h3
      go_enter Tryd.func7, Tryd.ntmps7
      go_wp2_with fail
      refine (first_any _ HT.out).mono ?_
      rintro e1 v1 ⟨rfl, hb1⟩
      have HT1 := Lib.hid (tab_below HT.out (hb1.alloc hb1.size (.cells (madeCells #[.int .u8 0] v.length) 5)))
      go_wp2_with fail
      refine (HW _ HT1.out).out.mono ?_
      rintro e2 v2 ⟨rfl, hb2⟩
      go_wp2_with fail
      refine (HR _).out.mono ?_
      rintro e3 v3 ⟨rfl, rfl⟩
      go_wp2
      go_ret
      exact ⟨rfl, bel (hb1.alloc hb1.size _) hb2⟩
    · rw [h1, h2] at hw
      rw [h3] at hr
      have h5 := Pax.long_of h4
      have HW : ∀ w' (h : Tab w'), Hid (Calls Tryd.prog 8 #[.string (bs k), .string (bs v)] w' fun e w'' => e = .returned (.tuple #[.string ⟨#[]⟩, .int .i64 3]) ∧ Below w'.heap.size w' w'') := hw
      have HR := fun w' => Lib.hid (hr w')
      have b1 : decide ((1048576 : Int) < (k.length : Int) + v.length + 10) = true := by simp; omega
      clear hw hr he h1 h2 h3 h4
      go_enter Tryd.func7, Tryd.ntmps7
      go_wp2_with fail
      refine (first_any _ HT.out).mono ?_
      rintro e1 v1 ⟨rfl, hb1⟩
      have HT1 := Lib.hid (tab_below HT.out (hb1.alloc hb1.size (.cells (madeCells #[.int .u8 0] v.length) 5)))
      go_wp2_with fail
      refine (HW _ HT1.out).out.mono ?_
      rintro e2 v2 ⟨rfl, hb2⟩
      go_wp2_with fail
      refine (HR _).out.mono ?_
      rintro e3 v3 ⟨rfl, rfl⟩
      go_wp2
      go_ret
      exact ⟨rfl, bel (hb1.alloc hb1.size _) hb2⟩
end Go.Proofs.YtbhdehkdnenigaaDoor
