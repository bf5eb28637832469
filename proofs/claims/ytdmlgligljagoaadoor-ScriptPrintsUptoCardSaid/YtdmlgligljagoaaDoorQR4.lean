/- The machine side of some functions, printed for this claim: each function has the answers of a plain one.
Face: the text of commands, told in the words of the kit's print.
Plain law: a command's line is read as the command, cleared; what is read is clean.
Plain law: the text of commands is read as the commands, cleared; what is read is clean.
Plain law: what is read out of a text is clean, and its own text is not too great for the machine.
Face: are two lists of commands the same? -/
import Derived.Test.YtdmlgligljagoaaDoorQR3
namespace Go.Proofs.YtdmlgligljagoaaDoor.PS
open Go.RowKit Go.Proofs.YtdmlgligljagoaaDoorW.PrintWords Go.Proofs.YtdmlgligljagoaaDoorW.PrintLast Go.Proofs.YtdmlgligljagoaaDoorW.PrintMore
attribute [local go_sem] zbg zbh max_two min_two zbe zbf zbi zbj   -- for this text's walks alone
set_option linter.unusedVariables false
set_option linter.unusedSimpArgs false

/-! ### script_lineText: function 23 -/
def script_lineText.f (k : Nat) (a0_0 : Int) (a0_1 : Int) (a0_2 : Int) (a0_3 : Int) (a0_4 : ByteArray) (a0_5 : ByteArray) (a0_6 : ByteArray) (l0_7 : List (S38)) (a0_8 : Int) (a0_9 : Int) (l0_10 : List Int) (a0_11 : ByteArray) : Option (ByteArray) := if a0_0 = 1 then ((strconv_Itoa.f a0_1).bind fun t410 => (if 6 + t410.size ≤ 9223372036854775807 then (if ((⟨#[119, 111, 114, 108, 100, 32]⟩ : ByteArray) ++ t410).size + 1 ≤ 9223372036854775807 then ((strconv_Itoa.f a0_2).bind fun t411 => (if (((⟨#[119, 111, 114, 108, 100, 32]⟩ : ByteArray) ++ t410) ++ (⟨#[32]⟩ : ByteArray)).size + t411.size ≤ 9223372036854775807 then (some ((((⟨#[119, 111, 114, 108, 100, 32]⟩ : ByteArray) ++ t410) ++ (⟨#[32]⟩ : ByteArray)) ++ t411)) else (none))) else (none)) else (none))) else (if a0_0 = 2 then ((script_stepText.f a0_3 a0_4 a0_5 a0_6 l0_7 a0_8 a0_9 l0_10).bind fun t412 => (some t412)) else (if a0_0 = 3 then ((script_Quote.f k a0_11).bind fun t413 => (if 6 + t413.size ≤ 9223372036854775807 then (some ((⟨#[118, 97, 108, 117, 101, 32]⟩ : ByteArray) ++ t413)) else (none))) else (if a0_0 = 4 then (some (⟨#[100, 105, 103, 101, 115, 116]⟩ : ByteArray)) else (if a0_0 = 5 then (some (⟨#[117, 112]⟩ : ByteArray)) else (some (⟨#[]⟩ : ByteArray))))))
def script_lineText.T3 : Bool × List (List Nat × List Nat) := (true, [([], []), ([0], [0]), ([1], [1]), ([2], [2]), ([3], [3]), ([], []), ([5], [5]), ([6, 2], [6]), ([4, 7], [4, 7]), ([8, 7, 0, 1, 2, 3, 4, 5, 6, 7, 8], [8])])
def script_lineText.B3 : List Nat := [0, 1, 3, 7, 15, 0, 32, 103, 255, 511]
theorem script_lineText.tab3 : rtab .any (opsOf Tryd.f23 3) = script_lineText.T3 := by kernel_rfl
theorem script_lineText.bits3 : waitsOk script_lineText.T3.2 script_lineText.B3 = true := by kernel_rfl
set_option maxHeartbeats 8000000 in
set_option maxRecDepth 100000 in
theorem script_lineText.calls (k : Nat) (a0_0 : Int) (a0_1 : Int) (a0_2 : Int) (a0_3 : Int) (a0_4 : ByteArray) (a0_5 : ByteArray) (a0_6 : ByteArray) (A0_7 : Option Addr) (c0_7 : Nat) (l0_7 : List (S38)) (a0_8 : Int) (a0_9 : Int) (A0_10 : Option Addr) (c0_10 : Nat) (l0_10 : List Int) (a0_11 : ByteArray) (r : ByteArray) (w : World) (hr0_7 : Kd.C k38 w A0_7 l0_7.length l0_7) (hc0_7 : l0_7.length ≤ c0_7) (hr0_10 : Kd.C (Kd.int .i64) w A0_10 l0_10.length l0_10) (hc0_10 : l0_10.length ≤ c0_10) (hT : Tab w) (h : script_lineText.f k a0_0 a0_1 a0_2 a0_3 a0_4 a0_5 a0_6 l0_7 a0_8 a0_9 l0_10 a0_11 = some r) :
  Calls Tryd.prog 23 #[.agg #[.int .i64 a0_0, .int .i64 a0_1, .int .i64 a0_2, .int .i64 a0_3, .string a0_4, .string a0_5, .string a0_6, .slice A0_7 l0_7.length c0_7, .int .i64 a0_8, .int .i64 a0_9, .slice A0_10 l0_10.length c0_10, .string a0_11]] w fun e w' => e = .returned (.string r) ∧ Below w.heap.size w w' := by
 have hu36 := Tryd.underlying36
 have hu34 := Tryd.underlying34
 have HR0_7 := Aside0.mk hr0_7
 have HC0_7 := Aside0.mk hc0_7
 clear hr0_7 hc0_7
 have HR0_10 := Aside0.mk hr0_10
 have HC0_10 := Aside0.mk hc0_10
 clear hr0_10 hc0_10
 have HB := Aside0.mk (Below.refl w.heap.size w)
 have HT := Aside0.mk hT
 clear hT
 have H : (if a0_0 = 1 then ((strconv_Itoa.f a0_1).bind fun t410 => (if 6 + t410.size ≤ 9223372036854775807 then (if ((⟨#[119, 111, 114, 108, 100, 32]⟩ : ByteArray) ++ t410).size + 1 ≤ 9223372036854775807 then ((strconv_Itoa.f a0_2).bind fun t411 => (if (((⟨#[119, 111, 114, 108, 100, 32]⟩ : ByteArray) ++ t410) ++ (⟨#[32]⟩ : ByteArray)).size + t411.size ≤ 9223372036854775807 then (some ((((⟨#[119, 111, 114, 108, 100, 32]⟩ : ByteArray) ++ t410) ++ (⟨#[32]⟩ : ByteArray)) ++ t411)) else (none))) else (none)) else (none))) else (if a0_0 = 2 then ((script_stepText.f a0_3 a0_4 a0_5 a0_6 l0_7 a0_8 a0_9 l0_10).bind fun t412 => (some t412)) else (if a0_0 = 3 then ((script_Quote.f k a0_11).bind fun t413 => (if 6 + t413.size ≤ 9223372036854775807 then (some ((⟨#[118, 97, 108, 117, 101, 32]⟩ : ByteArray) ++ t413)) else (none))) else (if a0_0 = 4 then (some (⟨#[100, 105, 103, 101, 115, 116]⟩ : ByteArray)) else (if a0_0 = 5 then (some (⟨#[117, 112]⟩ : ByteArray)) else (some (⟨#[]⟩ : ByteArray))))))) = some r := h
 clear h
 by_cases c2 : a0_0 = 1
 rotate_left
 ·
  rw [if_neg c2] at H
  have c2b0 : (a0_0 == 1) = false := beq_eq_false_iff_ne.mpr c2
  have c2b1 : (a0_0 != 1) = true := bne_iff_ne.mpr c2
  by_cases c13 : a0_0 = 2
  ·
   rw [if_pos c13] at H
   have c13b0 : (a0_0 == 2) = true := beq_iff_eq.mpr c13
   have c13b1 : (a0_0 != 2) = false := bne_eq_false_iff_eq.mpr c13
   clear c13
   replace H := Option.bind_eq_some_iff.mp H
   obtain ⟨t412, A140, H⟩ := H
   replace H : (some t412) = some r := H
   have A14 := Aside0.mk A140
   clear A140
   obtain rfl := Option.some.inj H
   go_enter Tryd.func23, Tryd.ntmps23
   go_wp2_with (first | ((with_reducible refine zbm (N := 1) rfl ?_); refine zbn ?hg (N := 1) ?hd (cs := #[.int .i64 a0_0, .int .i64 a0_1, .int .i64 a0_2, .int .i64 a0_3, .string a0_4, .string a0_5, .string a0_6, .slice A0_7 l0_7.length c0_7, .int .i64 a0_8, .int .i64 a0_9, .slice A0_10 l0_10.length c0_10, .string a0_11]) (t := 36) ?hr ?_; (case hd => rfl); (case hg => rfl); (case hr => first | (go_simp; done) | (go_simp; rfl)); intro gb409 hg w15 hbox hb; have n0_ := Aside0.mk (zap (by repeat with_reducible first | exact HB.out | apply zae | apply zac | apply zad) hb); have n1_ := Aside0.mk (hbox); have n2_ := Aside0.mk ((by rw [hg]; exact (zal (by repeat with_reducible first | exact HB.out | apply zae | apply zac | apply zad)) : w.heap.size ≤ gb409)); have n3_ := Aside0.mk ((by rw [hg]; exact (zal (by repeat with_reducible first | exact HB.out | apply zae | apply zac | apply zad)) : w.heap.size ≤ gb409)); clear HB; have HB := n0_; have BK409 := n1_; have GW409 := n2_; have GE409 := n3_; clear n0_ n1_ n2_ n3_; clear hb hbox hg; have hcz16_0 : w15.cell? ⟨gb409, 0, none⟩ = some (.int .i64 a0_0) := (zaa BK409.out 0).trans rfl; have hcz16_1 : w15.cell? ⟨gb409, 1, none⟩ = some (.int .i64 a0_1) := (zaa BK409.out 1).trans rfl; have hcz16_2 : w15.cell? ⟨gb409, 2, none⟩ = some (.int .i64 a0_2) := (zaa BK409.out 2).trans rfl; have hcz16_3 : w15.cell? ⟨gb409, 3, none⟩ = some (.int .i64 a0_3) := (zaa BK409.out 3).trans rfl; have hcz16_4 : w15.cell? ⟨gb409, 4, none⟩ = some (.string a0_4) := (zaa BK409.out 4).trans rfl; have hcz16_5 : w15.cell? ⟨gb409, 5, none⟩ = some (.string a0_5) := (zaa BK409.out 5).trans rfl; have hcz16_6 : w15.cell? ⟨gb409, 6, none⟩ = some (.string a0_6) := (zaa BK409.out 6).trans rfl; have hcz16_7 : w15.cell? ⟨gb409, 7, none⟩ = some (.slice A0_7 l0_7.length c0_7) := (zaa BK409.out 7).trans rfl; have hcz16_8 : w15.cell? ⟨gb409, 8, none⟩ = some (.int .i64 a0_8) := (zaa BK409.out 8).trans rfl; have hcz16_9 : w15.cell? ⟨gb409, 9, none⟩ = some (.int .i64 a0_9) := (zaa BK409.out 9).trans rfl; have hcz16_10 : w15.cell? ⟨gb409, 10, none⟩ = some (.slice A0_10 l0_10.length c0_10) := (zaa BK409.out 10).trans rfl; have hcz16_11 : w15.cell? ⟨gb409, 11, none⟩ = some (.string a0_11) := (zaa BK409.out 11).trans rfl; have hfz16_0 := zab BK409.out 0; have hfz16_1 := zab BK409.out 1; have hfz16_2 := zab BK409.out 2; have hfz16_3 := zab BK409.out 3; have hfz16_4 := zab BK409.out 4; have hfz16_5 := zab BK409.out 5; have hfz16_6 := zab BK409.out 6; have hfz16_7 := zab BK409.out 7; have hfz16_8 := zab BK409.out 8; have hfz16_9 := zab BK409.out 9; have hfz16_10 := zab BK409.out 10; have hfz16_11 := zab BK409.out 11) | ((with_reducible refine zay (f := 35) rfl ?_); refine goesL_ (some 20) rfl rfl Tryd.func35 (by kernel_rfl) rfl #[.agg #[.int .i64 a0_3, .string a0_4, .string a0_5, .string a0_6, .slice A0_7 l0_7.length c0_7, .int .i64 a0_8, .int .i64 a0_9, .slice A0_10 l0_10.length c0_10]] rfl (by (try simp only [List.map_toArray, List.map_cons, List.map_nil]); first | done | rfl | (simp only [List.length_drop, List.length_take]; rfl)) ?_; (with_reducible refine (script_stepText.calls a0_3 a0_4 a0_5 a0_6 _ _ l0_7 a0_8 a0_9 _ _ l0_10 t412 _ ?side1 ?side2 ?side3 ?side4 ?side5 A14.out).mono ?_); (case side1 => repeat (first | exact (Kd.C_below HR0_7.out HB.out) | (with_reducible refine Kd.C_alloc ?_ _) | (with_reducible refine Kd.C_drewN ?_ _) | (with_reducible refine Kd.C_drew ?_))); (case side2 => exact HC0_7.out); (case side3 => repeat (first | exact (Kd.C_below HR0_10.out HB.out) | (with_reducible refine Kd.C_alloc ?_ _) | (with_reducible refine Kd.C_drewN ?_ _) | (with_reducible refine Kd.C_drew ?_))); (case side4 => exact HC0_10.out); (case side5 => exact zba HT.out (by repeat with_reducible first | exact HB.out | apply zae | apply zac | apply zad | refine zah ?_ GE409.out)); rintro e w17 ⟨rfl, hb⟩; refine ⟨_, rfl, ?_⟩; have n0_ := Aside0.mk (zaz (g := gb409) (o := .cells #[.int .i64 a0_0, .int .i64 a0_1, .int .i64 a0_2, .int .i64 a0_3, .string a0_4, .string a0_5, .string a0_6, .slice A0_7 l0_7.length c0_7, .int .i64 a0_8, .int .i64 a0_9, .slice A0_10 l0_10.length c0_10, .string a0_11] 36 (0, 0)) (by (with_reducible repeat (first | refine zai ?_ _ | refine zaj ?_ | refine zag ?_ _)); exact BK409.out) hb); have n1_ := Aside0.mk (zap (by repeat with_reducible first | exact HB.out | apply zae | apply zac | apply zad | refine zah ?_ GE409.out) hb); clear BK409; clear HB; have BK409 := n0_; have HB := n1_; clear n0_ n1_; (try clear hb); (try clear hb2); (try clear hk); (try clear hi)))
   go_ret
   exact ⟨by first | rfl | (simp [zam, zan] <;> rfl) | (simp [*, zam, zan] <;> rfl), by repeat with_reducible first | exact HB.out | apply zae | apply zac | apply zad | refine zah ?_ GE409.out⟩
  rw [if_neg c13] at H
  have c13b0 : (a0_0 == 2) = false := beq_eq_false_iff_ne.mpr c13
  have c13b1 : (a0_0 != 2) = true := bne_iff_ne.mpr c13
  by_cases c18 : a0_0 = 3
  ·
   rw [if_pos c18] at H
   have c18b0 : (a0_0 == 3) = true := beq_iff_eq.mpr c18
   have c18b1 : (a0_0 != 3) = false := bne_eq_false_iff_eq.mpr c18
   clear c18
   replace H := Option.bind_eq_some_iff.mp H
   obtain ⟨t413, A190, H⟩ := H
   replace H : (if 6 + t413.size ≤ 9223372036854775807 then (some ((⟨#[118, 97, 108, 117, 101, 32]⟩ : ByteArray) ++ t413)) else (none)) = some r := H
   have A19 := Aside0.mk A190
   clear A190
   by_cases c20 : 6 + t413.size ≤ 9223372036854775807
   rotate_left
   ·
    rw [if_neg c20] at H
    exact absurd H (by simp)
   rw [if_pos c20] at H
   have c20b0 := eq_true c20
   have c20b1 : decide (6 + t413.size ≤ 9223372036854775807) = true := decide_eq_true c20
   try have c20b2 : (9223372036854775807 < 6 + t413.size) = False := eq_false (Nat.not_lt.2 c20)
   obtain rfl := Option.some.inj H
   go_enter Tryd.func23, Tryd.ntmps23
   go_wp2_with (first | ((with_reducible refine zbm (N := 1) rfl ?_); refine zbn ?hg (N := 1) ?hd (cs := #[.int .i64 a0_0, .int .i64 a0_1, .int .i64 a0_2, .int .i64 a0_3, .string a0_4, .string a0_5, .string a0_6, .slice A0_7 l0_7.length c0_7, .int .i64 a0_8, .int .i64 a0_9, .slice A0_10 l0_10.length c0_10, .string a0_11]) (t := 36) ?hr ?_; (case hd => rfl); (case hg => rfl); (case hr => first | (go_simp; done) | (go_simp; rfl)); intro gb409 hg w21 hbox hb; have n0_ := Aside0.mk (zap (by repeat with_reducible first | exact HB.out | apply zae | apply zac | apply zad) hb); have n1_ := Aside0.mk (hbox); have n2_ := Aside0.mk ((by rw [hg]; exact (zal (by repeat with_reducible first | exact HB.out | apply zae | apply zac | apply zad)) : w.heap.size ≤ gb409)); have n3_ := Aside0.mk ((by rw [hg]; exact (zal (by repeat with_reducible first | exact HB.out | apply zae | apply zac | apply zad)) : w.heap.size ≤ gb409)); clear HB; have HB := n0_; have BK409 := n1_; have GW409 := n2_; have GE409 := n3_; clear n0_ n1_ n2_ n3_; clear hb hbox hg; have hcz22_0 : w21.cell? ⟨gb409, 0, none⟩ = some (.int .i64 a0_0) := (zaa BK409.out 0).trans rfl; have hcz22_1 : w21.cell? ⟨gb409, 1, none⟩ = some (.int .i64 a0_1) := (zaa BK409.out 1).trans rfl; have hcz22_2 : w21.cell? ⟨gb409, 2, none⟩ = some (.int .i64 a0_2) := (zaa BK409.out 2).trans rfl; have hcz22_3 : w21.cell? ⟨gb409, 3, none⟩ = some (.int .i64 a0_3) := (zaa BK409.out 3).trans rfl; have hcz22_4 : w21.cell? ⟨gb409, 4, none⟩ = some (.string a0_4) := (zaa BK409.out 4).trans rfl; have hcz22_5 : w21.cell? ⟨gb409, 5, none⟩ = some (.string a0_5) := (zaa BK409.out 5).trans rfl; have hcz22_6 : w21.cell? ⟨gb409, 6, none⟩ = some (.string a0_6) := (zaa BK409.out 6).trans rfl; have hcz22_7 : w21.cell? ⟨gb409, 7, none⟩ = some (.slice A0_7 l0_7.length c0_7) := (zaa BK409.out 7).trans rfl; have hcz22_8 : w21.cell? ⟨gb409, 8, none⟩ = some (.int .i64 a0_8) := (zaa BK409.out 8).trans rfl; have hcz22_9 : w21.cell? ⟨gb409, 9, none⟩ = some (.int .i64 a0_9) := (zaa BK409.out 9).trans rfl; have hcz22_10 : w21.cell? ⟨gb409, 10, none⟩ = some (.slice A0_10 l0_10.length c0_10) := (zaa BK409.out 10).trans rfl; have hcz22_11 : w21.cell? ⟨gb409, 11, none⟩ = some (.string a0_11) := (zaa BK409.out 11).trans rfl; have hfz22_0 := zab BK409.out 0; have hfz22_1 := zab BK409.out 1; have hfz22_2 := zab BK409.out 2; have hfz22_3 := zab BK409.out 3; have hfz22_4 := zab BK409.out 4; have hfz22_5 := zab BK409.out 5; have hfz22_6 := zab BK409.out 6; have hfz22_7 := zab BK409.out 7; have hfz22_8 := zab BK409.out 8; have hfz22_9 := zab BK409.out 9; have hfz22_10 := zab BK409.out 10; have hfz22_11 := zab BK409.out 11) | ((with_reducible refine zay (f := 13) rfl ?_); refine goesL_ (some 25) rfl rfl Tryd.func13 (by kernel_rfl) rfl #[.string a0_11] rfl (by (try simp only [List.map_toArray, List.map_cons, List.map_nil]); first | done | rfl | (simp only [List.length_drop, List.length_take]; rfl)) ?_; (with_reducible refine (script_Quote.calls k a0_11 t413 _ A19.out).mono ?_); rintro e w23 ⟨rfl, hb⟩; refine ⟨_, rfl, ?_⟩; have n0_ := Aside0.mk (zaz (g := gb409) (o := .cells #[.int .i64 a0_0, .int .i64 a0_1, .int .i64 a0_2, .int .i64 a0_3, .string a0_4, .string a0_5, .string a0_6, .slice A0_7 l0_7.length c0_7, .int .i64 a0_8, .int .i64 a0_9, .slice A0_10 l0_10.length c0_10, .string a0_11] 36 (0, 0)) (by (with_reducible repeat (first | refine zai ?_ _ | refine zaj ?_ | refine zag ?_ _)); exact BK409.out) hb); have n1_ := Aside0.mk (zap (by repeat with_reducible first | exact HB.out | apply zae | apply zac | apply zad | refine zah ?_ GE409.out) hb); clear BK409; clear HB; have BK409 := n0_; have HB := n1_; clear n0_ n1_; (try clear hb); (try clear hb2); (try clear hk); (try clear hi)))
   go_ret
   exact ⟨by first | rfl | (simp [zam, zan] <;> rfl) | (simp [*, zam, zan] <;> rfl), by repeat with_reducible first | exact HB.out | apply zae | apply zac | apply zad | refine zah ?_ GE409.out⟩
  rw [if_neg c18] at H
  have c18b0 : (a0_0 == 3) = false := beq_eq_false_iff_ne.mpr c18
  have c18b1 : (a0_0 != 3) = true := bne_iff_ne.mpr c18
  by_cases c24 : a0_0 = 4
  ·
   rw [if_pos c24] at H
   have c24b0 : (a0_0 == 4) = true := beq_iff_eq.mpr c24
   have c24b1 : (a0_0 != 4) = false := bne_eq_false_iff_eq.mpr c24
   clear c24
   obtain rfl := Option.some.inj H
   go_enter Tryd.func23, Tryd.ntmps23
   go_wp2_with (first | ((with_reducible refine zbm (N := 1) rfl ?_); refine zbn ?hg (N := 1) ?hd (cs := #[.int .i64 a0_0, .int .i64 a0_1, .int .i64 a0_2, .int .i64 a0_3, .string a0_4, .string a0_5, .string a0_6, .slice A0_7 l0_7.length c0_7, .int .i64 a0_8, .int .i64 a0_9, .slice A0_10 l0_10.length c0_10, .string a0_11]) (t := 36) ?hr ?_; (case hd => rfl); (case hg => rfl); (case hr => first | (go_simp; done) | (go_simp; rfl)); intro gb409 hg w25 hbox hb; have n0_ := Aside0.mk (zap (by repeat with_reducible first | exact HB.out | apply zae | apply zac | apply zad) hb); have n1_ := Aside0.mk (hbox); have n2_ := Aside0.mk ((by rw [hg]; exact (zal (by repeat with_reducible first | exact HB.out | apply zae | apply zac | apply zad)) : w.heap.size ≤ gb409)); have n3_ := Aside0.mk ((by rw [hg]; exact (zal (by repeat with_reducible first | exact HB.out | apply zae | apply zac | apply zad)) : w.heap.size ≤ gb409)); clear HB; have HB := n0_; have BK409 := n1_; have GW409 := n2_; have GE409 := n3_; clear n0_ n1_ n2_ n3_; clear hb hbox hg; have hcz26_0 : w25.cell? ⟨gb409, 0, none⟩ = some (.int .i64 a0_0) := (zaa BK409.out 0).trans rfl; have hcz26_1 : w25.cell? ⟨gb409, 1, none⟩ = some (.int .i64 a0_1) := (zaa BK409.out 1).trans rfl; have hcz26_2 : w25.cell? ⟨gb409, 2, none⟩ = some (.int .i64 a0_2) := (zaa BK409.out 2).trans rfl; have hcz26_3 : w25.cell? ⟨gb409, 3, none⟩ = some (.int .i64 a0_3) := (zaa BK409.out 3).trans rfl; have hcz26_4 : w25.cell? ⟨gb409, 4, none⟩ = some (.string a0_4) := (zaa BK409.out 4).trans rfl; have hcz26_5 : w25.cell? ⟨gb409, 5, none⟩ = some (.string a0_5) := (zaa BK409.out 5).trans rfl; have hcz26_6 : w25.cell? ⟨gb409, 6, none⟩ = some (.string a0_6) := (zaa BK409.out 6).trans rfl; have hcz26_7 : w25.cell? ⟨gb409, 7, none⟩ = some (.slice A0_7 l0_7.length c0_7) := (zaa BK409.out 7).trans rfl; have hcz26_8 : w25.cell? ⟨gb409, 8, none⟩ = some (.int .i64 a0_8) := (zaa BK409.out 8).trans rfl; have hcz26_9 : w25.cell? ⟨gb409, 9, none⟩ = some (.int .i64 a0_9) := (zaa BK409.out 9).trans rfl; have hcz26_10 : w25.cell? ⟨gb409, 10, none⟩ = some (.slice A0_10 l0_10.length c0_10) := (zaa BK409.out 10).trans rfl; have hcz26_11 : w25.cell? ⟨gb409, 11, none⟩ = some (.string a0_11) := (zaa BK409.out 11).trans rfl; have hfz26_0 := zab BK409.out 0; have hfz26_1 := zab BK409.out 1; have hfz26_2 := zab BK409.out 2; have hfz26_3 := zab BK409.out 3; have hfz26_4 := zab BK409.out 4; have hfz26_5 := zab BK409.out 5; have hfz26_6 := zab BK409.out 6; have hfz26_7 := zab BK409.out 7; have hfz26_8 := zab BK409.out 8; have hfz26_9 := zab BK409.out 9; have hfz26_10 := zab BK409.out 10; have hfz26_11 := zab BK409.out 11))
   go_ret
   exact ⟨by first | rfl | (simp [zam, zan] <;> rfl) | (simp [*, zam, zan] <;> rfl), by repeat with_reducible first | exact HB.out | apply zae | apply zac | apply zad | refine zah ?_ GE409.out⟩
  rw [if_neg c24] at H
  have c24b0 : (a0_0 == 4) = false := beq_eq_false_iff_ne.mpr c24
  have c24b1 : (a0_0 != 4) = true := bne_iff_ne.mpr c24
  by_cases c27 : a0_0 = 5
  ·
   rw [if_pos c27] at H
   have c27b0 : (a0_0 == 5) = true := beq_iff_eq.mpr c27
   have c27b1 : (a0_0 != 5) = false := bne_eq_false_iff_eq.mpr c27
   clear c27
   obtain rfl := Option.some.inj H
   go_enter Tryd.func23, Tryd.ntmps23
   go_wp2_with (first | ((with_reducible refine zbm (N := 1) rfl ?_); refine zbn ?hg (N := 1) ?hd (cs := #[.int .i64 a0_0, .int .i64 a0_1, .int .i64 a0_2, .int .i64 a0_3, .string a0_4, .string a0_5, .string a0_6, .slice A0_7 l0_7.length c0_7, .int .i64 a0_8, .int .i64 a0_9, .slice A0_10 l0_10.length c0_10, .string a0_11]) (t := 36) ?hr ?_; (case hd => rfl); (case hg => rfl); (case hr => first | (go_simp; done) | (go_simp; rfl)); intro gb409 hg w28 hbox hb; have n0_ := Aside0.mk (zap (by repeat with_reducible first | exact HB.out | apply zae | apply zac | apply zad) hb); have n1_ := Aside0.mk (hbox); have n2_ := Aside0.mk ((by rw [hg]; exact (zal (by repeat with_reducible first | exact HB.out | apply zae | apply zac | apply zad)) : w.heap.size ≤ gb409)); have n3_ := Aside0.mk ((by rw [hg]; exact (zal (by repeat with_reducible first | exact HB.out | apply zae | apply zac | apply zad)) : w.heap.size ≤ gb409)); clear HB; have HB := n0_; have BK409 := n1_; have GW409 := n2_; have GE409 := n3_; clear n0_ n1_ n2_ n3_; clear hb hbox hg; have hcz29_0 : w28.cell? ⟨gb409, 0, none⟩ = some (.int .i64 a0_0) := (zaa BK409.out 0).trans rfl; have hcz29_1 : w28.cell? ⟨gb409, 1, none⟩ = some (.int .i64 a0_1) := (zaa BK409.out 1).trans rfl; have hcz29_2 : w28.cell? ⟨gb409, 2, none⟩ = some (.int .i64 a0_2) := (zaa BK409.out 2).trans rfl; have hcz29_3 : w28.cell? ⟨gb409, 3, none⟩ = some (.int .i64 a0_3) := (zaa BK409.out 3).trans rfl; have hcz29_4 : w28.cell? ⟨gb409, 4, none⟩ = some (.string a0_4) := (zaa BK409.out 4).trans rfl; have hcz29_5 : w28.cell? ⟨gb409, 5, none⟩ = some (.string a0_5) := (zaa BK409.out 5).trans rfl; have hcz29_6 : w28.cell? ⟨gb409, 6, none⟩ = some (.string a0_6) := (zaa BK409.out 6).trans rfl; have hcz29_7 : w28.cell? ⟨gb409, 7, none⟩ = some (.slice A0_7 l0_7.length c0_7) := (zaa BK409.out 7).trans rfl; have hcz29_8 : w28.cell? ⟨gb409, 8, none⟩ = some (.int .i64 a0_8) := (zaa BK409.out 8).trans rfl; have hcz29_9 : w28.cell? ⟨gb409, 9, none⟩ = some (.int .i64 a0_9) := (zaa BK409.out 9).trans rfl; have hcz29_10 : w28.cell? ⟨gb409, 10, none⟩ = some (.slice A0_10 l0_10.length c0_10) := (zaa BK409.out 10).trans rfl; have hcz29_11 : w28.cell? ⟨gb409, 11, none⟩ = some (.string a0_11) := (zaa BK409.out 11).trans rfl; have hfz29_0 := zab BK409.out 0; have hfz29_1 := zab BK409.out 1; have hfz29_2 := zab BK409.out 2; have hfz29_3 := zab BK409.out 3; have hfz29_4 := zab BK409.out 4; have hfz29_5 := zab BK409.out 5; have hfz29_6 := zab BK409.out 6; have hfz29_7 := zab BK409.out 7; have hfz29_8 := zab BK409.out 8; have hfz29_9 := zab BK409.out 9; have hfz29_10 := zab BK409.out 10; have hfz29_11 := zab BK409.out 11))
   go_ret
   exact ⟨by first | rfl | (simp [zam, zan] <;> rfl) | (simp [*, zam, zan] <;> rfl), by repeat with_reducible first | exact HB.out | apply zae | apply zac | apply zad | refine zah ?_ GE409.out⟩
  rw [if_neg c27] at H
  have c27b0 : (a0_0 == 5) = false := beq_eq_false_iff_ne.mpr c27
  have c27b1 : (a0_0 != 5) = true := bne_iff_ne.mpr c27
  obtain rfl := Option.some.inj H
  go_enter Tryd.func23, Tryd.ntmps23
  go_wp2_with (first | ((with_reducible refine zbm (N := 1) rfl ?_); refine zbn ?hg (N := 1) ?hd (cs := #[.int .i64 a0_0, .int .i64 a0_1, .int .i64 a0_2, .int .i64 a0_3, .string a0_4, .string a0_5, .string a0_6, .slice A0_7 l0_7.length c0_7, .int .i64 a0_8, .int .i64 a0_9, .slice A0_10 l0_10.length c0_10, .string a0_11]) (t := 36) ?hr ?_; (case hd => rfl); (case hg => rfl); (case hr => first | (go_simp; done) | (go_simp; rfl)); intro gb409 hg w30 hbox hb; have n0_ := Aside0.mk (zap (by repeat with_reducible first | exact HB.out | apply zae | apply zac | apply zad) hb); have n1_ := Aside0.mk (hbox); have n2_ := Aside0.mk ((by rw [hg]; exact (zal (by repeat with_reducible first | exact HB.out | apply zae | apply zac | apply zad)) : w.heap.size ≤ gb409)); have n3_ := Aside0.mk ((by rw [hg]; exact (zal (by repeat with_reducible first | exact HB.out | apply zae | apply zac | apply zad)) : w.heap.size ≤ gb409)); clear HB; have HB := n0_; have BK409 := n1_; have GW409 := n2_; have GE409 := n3_; clear n0_ n1_ n2_ n3_; clear hb hbox hg; have hcz31_0 : w30.cell? ⟨gb409, 0, none⟩ = some (.int .i64 a0_0) := (zaa BK409.out 0).trans rfl; have hcz31_1 : w30.cell? ⟨gb409, 1, none⟩ = some (.int .i64 a0_1) := (zaa BK409.out 1).trans rfl; have hcz31_2 : w30.cell? ⟨gb409, 2, none⟩ = some (.int .i64 a0_2) := (zaa BK409.out 2).trans rfl; have hcz31_3 : w30.cell? ⟨gb409, 3, none⟩ = some (.int .i64 a0_3) := (zaa BK409.out 3).trans rfl; have hcz31_4 : w30.cell? ⟨gb409, 4, none⟩ = some (.string a0_4) := (zaa BK409.out 4).trans rfl; have hcz31_5 : w30.cell? ⟨gb409, 5, none⟩ = some (.string a0_5) := (zaa BK409.out 5).trans rfl; have hcz31_6 : w30.cell? ⟨gb409, 6, none⟩ = some (.string a0_6) := (zaa BK409.out 6).trans rfl; have hcz31_7 : w30.cell? ⟨gb409, 7, none⟩ = some (.slice A0_7 l0_7.length c0_7) := (zaa BK409.out 7).trans rfl; have hcz31_8 : w30.cell? ⟨gb409, 8, none⟩ = some (.int .i64 a0_8) := (zaa BK409.out 8).trans rfl; have hcz31_9 : w30.cell? ⟨gb409, 9, none⟩ = some (.int .i64 a0_9) := (zaa BK409.out 9).trans rfl; have hcz31_10 : w30.cell? ⟨gb409, 10, none⟩ = some (.slice A0_10 l0_10.length c0_10) := (zaa BK409.out 10).trans rfl; have hcz31_11 : w30.cell? ⟨gb409, 11, none⟩ = some (.string a0_11) := (zaa BK409.out 11).trans rfl; have hfz31_0 := zab BK409.out 0; have hfz31_1 := zab BK409.out 1; have hfz31_2 := zab BK409.out 2; have hfz31_3 := zab BK409.out 3; have hfz31_4 := zab BK409.out 4; have hfz31_5 := zab BK409.out 5; have hfz31_6 := zab BK409.out 6; have hfz31_7 := zab BK409.out 7; have hfz31_8 := zab BK409.out 8; have hfz31_9 := zab BK409.out 9; have hfz31_10 := zab BK409.out 10; have hfz31_11 := zab BK409.out 11))
  go_ret
  exact ⟨by first | rfl | (simp [zam, zan] <;> rfl) | (simp [*, zam, zan] <;> rfl), by repeat with_reducible first | exact HB.out | apply zae | apply zac | apply zad | refine zah ?_ GE409.out⟩
 rw [if_pos c2] at H
 have c2b0 : (a0_0 == 1) = true := beq_iff_eq.mpr c2
 have c2b1 : (a0_0 != 1) = false := bne_eq_false_iff_eq.mpr c2
 clear c2
 replace H := Option.bind_eq_some_iff.mp H
 obtain ⟨t410, A30, H⟩ := H
 replace H : (if 6 + t410.size ≤ 9223372036854775807 then (if ((⟨#[119, 111, 114, 108, 100, 32]⟩ : ByteArray) ++ t410).size + 1 ≤ 9223372036854775807 then ((strconv_Itoa.f a0_2).bind fun t411 => (if (((⟨#[119, 111, 114, 108, 100, 32]⟩ : ByteArray) ++ t410) ++ (⟨#[32]⟩ : ByteArray)).size + t411.size ≤ 9223372036854775807 then (some ((((⟨#[119, 111, 114, 108, 100, 32]⟩ : ByteArray) ++ t410) ++ (⟨#[32]⟩ : ByteArray)) ++ t411)) else (none))) else (none)) else (none)) = some r := H
 have A3 := Aside0.mk A30
 clear A30
 by_cases c4 : 6 + t410.size ≤ 9223372036854775807
 rotate_left
 ·
  rw [if_neg c4] at H
  exact absurd H (by simp)
 rw [if_pos c4] at H
 have c4b0 := eq_true c4
 have c4b1 : decide (6 + t410.size ≤ 9223372036854775807) = true := decide_eq_true c4
 try have c4b2 : (9223372036854775807 < 6 + t410.size) = False := eq_false (Nat.not_lt.2 c4)
 by_cases c5 : ((⟨#[119, 111, 114, 108, 100, 32]⟩ : ByteArray) ++ t410).size + 1 ≤ 9223372036854775807
 rotate_left
 ·
  rw [if_neg c5] at H
  exact absurd H (by simp)
 rw [if_pos c5] at H
 have c5b0 := eq_true c5
 have c5b1 : decide (((⟨#[119, 111, 114, 108, 100, 32]⟩ : ByteArray) ++ t410).size + 1 ≤ 9223372036854775807) = true := decide_eq_true c5
 try have c5b2 : (9223372036854775807 < ((⟨#[119, 111, 114, 108, 100, 32]⟩ : ByteArray) ++ t410).size + 1) = False := eq_false (Nat.not_lt.2 c5)
 try have c5b3 : (9223372036854775807 < 6 + t410.size + 1) = False := eq_false (Nat.not_lt.2 (by have h_ := c5; simp only [ByteArray.size_append] at h_; exact h_))
 try have c5b4 : (9223372036854775807 < 6 + t410.size + 1) = False := eq_false (Nat.not_lt.2 (by have h_ := c5; simp only [ByteArray.size_append] at h_; exact h_))
 replace H := Option.bind_eq_some_iff.mp H
 obtain ⟨t411, A60, H⟩ := H
 replace H : (if (((⟨#[119, 111, 114, 108, 100, 32]⟩ : ByteArray) ++ t410) ++ (⟨#[32]⟩ : ByteArray)).size + t411.size ≤ 9223372036854775807 then (some ((((⟨#[119, 111, 114, 108, 100, 32]⟩ : ByteArray) ++ t410) ++ (⟨#[32]⟩ : ByteArray)) ++ t411)) else (none)) = some r := H
 have A6 := Aside0.mk A60
 clear A60
 by_cases c7 : (((⟨#[119, 111, 114, 108, 100, 32]⟩ : ByteArray) ++ t410) ++ (⟨#[32]⟩ : ByteArray)).size + t411.size ≤ 9223372036854775807
 rotate_left
 ·
  rw [if_neg c7] at H
  exact absurd H (by simp)
 rw [if_pos c7] at H
 have c7b0 := eq_true c7
 have c7b1 : decide ((((⟨#[119, 111, 114, 108, 100, 32]⟩ : ByteArray) ++ t410) ++ (⟨#[32]⟩ : ByteArray)).size + t411.size ≤ 9223372036854775807) = true := decide_eq_true c7
 try have c7b2 : (9223372036854775807 < (((⟨#[119, 111, 114, 108, 100, 32]⟩ : ByteArray) ++ t410) ++ (⟨#[32]⟩ : ByteArray)).size + t411.size) = False := eq_false (Nat.not_lt.2 c7)
 try have c7b3 : (9223372036854775807 < 6 + t410.size + 1 + t411.size) = False := eq_false (Nat.not_lt.2 (by have h_ := c7; simp only [ByteArray.size_append] at h_; exact h_))
 try have c7b4 : (9223372036854775807 < 6 + t410.size + 1 + t411.size) = False := eq_false (Nat.not_lt.2 (by have h_ := c7; simp only [ByteArray.size_append] at h_; exact h_))
 obtain rfl := Option.some.inj H
 go_enter Tryd.func23, Tryd.ntmps23
 try go_wp2_with (first | ((with_reducible refine zbm (N := 1) rfl ?_); refine zbn ?hg (N := 1) ?hd (cs := #[.int .i64 a0_0, .int .i64 a0_1, .int .i64 a0_2, .int .i64 a0_3, .string a0_4, .string a0_5, .string a0_6, .slice A0_7 l0_7.length c0_7, .int .i64 a0_8, .int .i64 a0_9, .slice A0_10 l0_10.length c0_10, .string a0_11]) (t := 36) ?hr ?_; (case hd => rfl); (case hg => rfl); (case hr => first | (go_simp; done) | (go_simp; rfl)); intro gb409 hg w8 hbox hb; have n0_ := Aside0.mk (zap (by repeat with_reducible first | exact HB.out | apply zae | apply zac | apply zad) hb); have n1_ := Aside0.mk (hbox); have n2_ := Aside0.mk ((by rw [hg]; exact (zal (by repeat with_reducible first | exact HB.out | apply zae | apply zac | apply zad)) : w.heap.size ≤ gb409)); have n3_ := Aside0.mk ((by rw [hg]; exact (zal (by repeat with_reducible first | exact HB.out | apply zae | apply zac | apply zad)) : w.heap.size ≤ gb409)); clear HB; have HB := n0_; have BK409 := n1_; have GW409 := n2_; have GE409 := n3_; clear n0_ n1_ n2_ n3_; clear hb hbox hg; have hcz9_0 : w8.cell? ⟨gb409, 0, none⟩ = some (.int .i64 a0_0) := (zaa BK409.out 0).trans rfl; have hcz9_1 : w8.cell? ⟨gb409, 1, none⟩ = some (.int .i64 a0_1) := (zaa BK409.out 1).trans rfl; have hcz9_2 : w8.cell? ⟨gb409, 2, none⟩ = some (.int .i64 a0_2) := (zaa BK409.out 2).trans rfl; have hcz9_3 : w8.cell? ⟨gb409, 3, none⟩ = some (.int .i64 a0_3) := (zaa BK409.out 3).trans rfl; have hcz9_4 : w8.cell? ⟨gb409, 4, none⟩ = some (.string a0_4) := (zaa BK409.out 4).trans rfl; have hcz9_5 : w8.cell? ⟨gb409, 5, none⟩ = some (.string a0_5) := (zaa BK409.out 5).trans rfl; have hcz9_6 : w8.cell? ⟨gb409, 6, none⟩ = some (.string a0_6) := (zaa BK409.out 6).trans rfl; have hcz9_7 : w8.cell? ⟨gb409, 7, none⟩ = some (.slice A0_7 l0_7.length c0_7) := (zaa BK409.out 7).trans rfl; have hcz9_8 : w8.cell? ⟨gb409, 8, none⟩ = some (.int .i64 a0_8) := (zaa BK409.out 8).trans rfl; have hcz9_9 : w8.cell? ⟨gb409, 9, none⟩ = some (.int .i64 a0_9) := (zaa BK409.out 9).trans rfl; have hcz9_10 : w8.cell? ⟨gb409, 10, none⟩ = some (.slice A0_10 l0_10.length c0_10) := (zaa BK409.out 10).trans rfl; have hcz9_11 : w8.cell? ⟨gb409, 11, none⟩ = some (.string a0_11) := (zaa BK409.out 11).trans rfl; have hfz9_0 := zab BK409.out 0; have hfz9_1 := zab BK409.out 1; have hfz9_2 := zab BK409.out 2; have hfz9_3 := zab BK409.out 3; have hfz9_4 := zab BK409.out 4; have hfz9_5 := zab BK409.out 5; have hfz9_6 := zab BK409.out 6; have hfz9_7 := zab BK409.out 7; have hfz9_8 := zab BK409.out 8; have hfz9_9 := zab BK409.out 9; have hfz9_10 := zab BK409.out 10; have hfz9_11 := zab BK409.out 11))
 have n0_ := Aside0.mk (zaj BK409.out)
 have n1_ := Aside0.mk (zad HB.out)
 clear BK409
 clear HB
 have BK409 := n0_
 have HB := n1_
 clear n0_ n1_
 refine start_ (n := 10) (S := fun w' => w'.cell? ⟨gb409, 0, none⟩ = some (.int .i64 a0_0) ∧ w'.cell? ⟨gb409, 1, none⟩ = some (.int .i64 a0_1) ∧ w'.cell? ⟨gb409, 2, none⟩ = some (.int .i64 a0_2) ∧ w'.cell? ⟨gb409, 3, none⟩ = some (.int .i64 a0_3) ∧ w'.cell? ⟨gb409, 4, none⟩ = some (.string a0_4) ∧ w'.cell? ⟨gb409, 5, none⟩ = some (.string a0_5) ∧ w'.cell? ⟨gb409, 6, none⟩ = some (.string a0_6) ∧ w'.cell? ⟨gb409, 7, none⟩ = some (.slice A0_7 l0_7.length c0_7) ∧ w'.cell? ⟨gb409, 8, none⟩ = some (.int .i64 a0_8) ∧ w'.cell? ⟨gb409, 9, none⟩ = some (.int .i64 a0_9) ∧ w'.cell? ⟨gb409, 10, none⟩ = some (.slice A0_10 l0_10.length c0_10) ∧ w'.cell? ⟨gb409, 11, none⟩ = some (.string a0_11)) (ds := []) #[false, false, false, false, false, false, false, false, false, false] (by kernel_rfl) rfl rfl ⟨(zaa BK409.out 0).trans rfl, (zaa BK409.out 1).trans rfl, (zaa BK409.out 2).trans rfl, (zaa BK409.out 3).trans rfl, (zaa BK409.out 4).trans rfl, (zaa BK409.out 5).trans rfl, (zaa BK409.out 6).trans rfl, (zaa BK409.out 7).trans rfl, (zaa BK409.out 8).trans rfl, (zaa BK409.out 9).trans rfl, (zaa BK409.out 10).trans rfl, (zaa BK409.out 11).trans rfl⟩ (fun hHeld => ?_); refine zbp script_lineText.tab3 script_lineText.bits3 (fun HT_ HW_ => ?_)
 generalize w8.drew = w10 at BK409 HB hHeld ⊢
 refine pure_ (i := 0) (N := some 7) (v := ?_) (a' := ?_) (tm 10 1) rfl rfl (zak HT_.out (by kernel_rfl)) (fun _ _ _ h => h) (Or.inl ⟨by rfl, ?_⟩) ?_ ?_
 rotate_left
 ·
  intro w'
  go_simp
  with_reducible rfl
 rotate_left
 ·
  simp only [aw]
  rfl
 refine pure_ (i := 5) (N := some 12) (v := ?_) (a' := ?_) (tm 10 33) rfl rfl (zak HT_.out (by kernel_rfl)) (fun _ _ _ h => h) (Or.inl ⟨by rfl, ?_⟩) ?_ ?_
 rotate_left
 ·
  intro w'
  go_simp
  with_reducible rfl
 rotate_left
 ·
  simp only [aw]
  rfl
 refine take_ (i := 1) (N := some 8) (v := ?_) (a' := ?_) #[true, true, false, false, false, true, false, false, false, false] rfl rfl (zat HT_.out HW_.out (by kernel_rfl)) (fun _ _ _ h => h) (Or.inl ⟨by rfl, ?_⟩) hHeld ?_ ?_
 rotate_left
 ·
  rintro w' ⟨s0, s1, s2, s3, s4, s5, s6, s7, s8, s9, s10, s11⟩
  go_simp
  with_reducible rfl
 rotate_left
 ·
  simp only [aw]
  rfl
 refine take_ (i := 6) (N := some 13) (v := ?_) (a' := ?_) #[true, true, false, false, false, true, true, false, false, false] rfl rfl (zat HT_.out HW_.out (by kernel_rfl)) (fun _ _ _ h => h) (Or.inl ⟨by rfl, ?_⟩) hHeld ?_ ?_
 rotate_left
 ·
  rintro w' ⟨s0, s1, s2, s3, s4, s5, s6, s7, s8, s9, s10, s11⟩
  go_simp
  with_reducible rfl
 rotate_left
 ·
  simp only [aw]
  rfl
 refine one_ (i := 2) (N := some 9) (tm 10 103) rfl rfl (one_of HT_.out (by kernel_rfl)) (by decide) (fun K hK => ?_)
 refine goes_ Tryd.func22 (by kernel_rfl) rfl #[.int .i64 a0_1] (by rfl) rfl rfl (by (try simp only [List.map_toArray, List.map_cons, List.map_nil]); first | done | rfl | (simp only [List.length_drop, List.length_take]; rfl)) ?_
 with_reducible refine (strconv_Itoa.calls a0_1 t410 _ ?side1 A3.out).mono ?_
 (case side1 => exact zba HT.out (by repeat with_reducible first | exact HB.out | apply zae | apply zac | apply zad | refine zah ?_ GE409.out))
 rintro e w11 ⟨rfl, hb⟩
 refine ⟨_, rfl, ?_⟩
 have n0_ := Aside0.mk (zaz (g := gb409) (o := .cells #[.int .i64 a0_0, .int .i64 a0_1, .int .i64 a0_2, .int .i64 a0_3, .string a0_4, .string a0_5, .string a0_6, .slice A0_7 l0_7.length c0_7, .int .i64 a0_8, .int .i64 a0_9, .slice A0_10 l0_10.length c0_10, .string a0_11] 36 (0, 0)) (by (with_reducible repeat (first | refine zai ?_ _ | refine zaj ?_ | refine zag ?_ _)); exact BK409.out) hb)
 have n1_ := Aside0.mk (zap (by repeat with_reducible first | exact HB.out | apply zae | apply zac | apply zad | refine zah ?_ GE409.out) hb)
 clear BK409
 clear HB
 have BK409 := n0_
 have HB := n1_
 clear n0_ n1_
 (try clear hb)
 (try clear hb2)
 (try clear hk)
 (try clear hi)
 refine hK.out _ _ ⟨(zaa BK409.out 0).trans rfl, (zaa BK409.out 1).trans rfl, (zaa BK409.out 2).trans rfl, (zaa BK409.out 3).trans rfl, (zaa BK409.out 4).trans rfl, (zaa BK409.out 5).trans rfl, (zaa BK409.out 6).trans rfl, (zaa BK409.out 7).trans rfl, (zaa BK409.out 8).trans rfl, (zaa BK409.out 9).trans rfl, (zaa BK409.out 10).trans rfl, (zaa BK409.out 11).trans rfl⟩ (fun hHeld => ?_)
 clear hK K
 refine norm_ (a' := ?_) ?_ ?_
 rotate_left
 ·
  show Act.put _ (some 9) _ = _
  simp only [aw]
  rfl
 refine pure_ (i := 3) (N := some 10) (v := ?_) (a' := ?_) (tm 10 111) rfl rfl (zak HT_.out (by kernel_rfl)) (fun _ _ _ h => h) (Or.inl ⟨by rfl, ?_⟩) ?_ ?_
 rotate_left
 ·
  intro w'
  go_simp
  with_reducible rfl
 rotate_left
 ·
  simp only [aw]
  rfl
 refine pure_ (i := 4) (N := some 11) (v := ?_) (a' := ?_) (tm 10 127) rfl rfl (zak HT_.out (by kernel_rfl)) (fun _ _ _ h => h) (Or.inl ⟨by rfl, ?_⟩) ?_ ?_
 rotate_left
 ·
  intro w'
  go_simp
  with_reducible rfl
 rotate_left
 ·
  simp only [aw]
  rfl
 refine one_ (i := 7) (N := some 14) (tm 10 255) rfl rfl (one_of HT_.out (by kernel_rfl)) (by decide) (fun K hK => ?_)
 refine goes_ Tryd.func22 (by kernel_rfl) rfl #[.int .i64 a0_2] (by rfl) rfl rfl (by (try simp only [List.map_toArray, List.map_cons, List.map_nil]); first | done | rfl | (simp only [List.length_drop, List.length_take]; rfl)) ?_
 with_reducible refine (strconv_Itoa.calls a0_2 t411 _ ?side1 A6.out).mono ?_
 (case side1 => exact zba HT.out (by repeat with_reducible first | exact HB.out | apply zae | apply zac | apply zad | refine zah ?_ GE409.out))
 rintro e w12 ⟨rfl, hb⟩
 refine ⟨_, rfl, ?_⟩
 have n0_ := Aside0.mk (zaz (g := gb409) (o := .cells #[.int .i64 a0_0, .int .i64 a0_1, .int .i64 a0_2, .int .i64 a0_3, .string a0_4, .string a0_5, .string a0_6, .slice A0_7 l0_7.length c0_7, .int .i64 a0_8, .int .i64 a0_9, .slice A0_10 l0_10.length c0_10, .string a0_11] 36 (0, 0)) (by (with_reducible repeat (first | refine zai ?_ _ | refine zaj ?_ | refine zag ?_ _)); exact BK409.out) hb)
 have n1_ := Aside0.mk (zap (by repeat with_reducible first | exact HB.out | apply zae | apply zac | apply zad | refine zah ?_ GE409.out) hb)
 clear BK409
 clear HB
 have BK409 := n0_
 have HB := n1_
 clear n0_ n1_
 (try clear hb)
 (try clear hb2)
 (try clear hk)
 (try clear hi)
 refine hK.out _ _ ⟨(zaa BK409.out 0).trans rfl, (zaa BK409.out 1).trans rfl, (zaa BK409.out 2).trans rfl, (zaa BK409.out 3).trans rfl, (zaa BK409.out 4).trans rfl, (zaa BK409.out 5).trans rfl, (zaa BK409.out 6).trans rfl, (zaa BK409.out 7).trans rfl, (zaa BK409.out 8).trans rfl, (zaa BK409.out 9).trans rfl, (zaa BK409.out 10).trans rfl, (zaa BK409.out 11).trans rfl⟩ (fun hHeld => ?_)
 clear hK K
 refine norm_ (a' := ?_) ?_ ?_
 rotate_left
 ·
  show Act.put _ (some 14) _ = _
  simp only [aw]
  rfl
 refine pure_ (i := 8) (N := some 15) (v := ?_) (a' := ?_) (tm 10 511) rfl rfl (zak HT_.out (by kernel_rfl)) (fun _ _ _ h => h) (Or.inl ⟨by rfl, ?_⟩) ?_ ?_
 rotate_left
 ·
  intro w'
  go_simp
  with_reducible rfl
 rotate_left
 ·
  simp only [aw]
  rfl
 refine pure_ (i := 9) (N := some 2) (v := ?_) (a' := ?_) (tm 10 1023) rfl rfl (zak HT_.out (by kernel_rfl)) (fun _ _ _ h => h) (Or.inl ⟨by rfl, ?_⟩) ?_ ?_
 rotate_left
 ·
  intro w'
  go_simp
  with_reducible rfl
 rotate_left
 ·
  simp only [aw]
  rfl
 refine done_ (done_of HT_.out (by kernel_rfl)) ?_
 try go_wp2
 go_ret
 exact ⟨by first | rfl | (simp [zam, zan] <;> rfl) | (simp [*, zam, zan] <;> rfl), by repeat with_reducible first | exact HB.out | apply zae | apply zac | apply zad | refine zah ?_ GE409.out⟩

end Go.Proofs.YtdmlgligljagoaaDoor.PS

set_option linter.unusedVariables false
set_option linter.unusedSimpArgs false
namespace Go.Proofs.YtdmlgligljagoaaDoor
open Go.RowKit Go.Proofs.YtdmlgligljagoaaDoorW.PrintWords PS

/-- a command's line -/
def lineT (c : S36) : List UInt8 :=
  if c.f0 = 1 then [119, 111, 114, 108, 100, 32] ++ Lib.itoa c.f1 ++ [32] ++ Lib.itoa c.f2
  else if c.f0 = 2 then (stepL c.f3).data.toList
  else if c.f0 = 3 then [118, 97, 108, 117, 101, 32] ++ zau c.f4.data.toList
  else if c.f0 = 4 then [100, 105, 103, 101, 115, 116] else if c.f0 = 5 then [117, 112] else []
def LineOK (c : S36) : Prop := I64 c.f1 ∧ I64 c.f2 ∧ I64 c.f3.f5 ∧ I64 c.f3.f6 ∧ (∀ x ∈ c.f3.f7, I64 x) ∧ (lineT c).length ≤ 2147483648
instance (c : S36) : Decidable (LineOK c) := inferInstanceAs (Decidable (_ ∧ _ ∧ _ ∧ _ ∧ _ ∧ _))
theorem bs_toL (s : ByteArray) : bs s.data.toList = s := bs_self s
theorem itoa_is {n : Int} (h : I64 n) : strconv_Itoa.f n = some (bs (Lib.itoa n)) := by
  unfold I64 at h
  unfold strconv_Itoa.f
  rw [if_pos h]
theorem lineText_is (c : S36) (h : LineOK c) : ∃ k, script_lineText.f k c.f0 c.f1 c.f2 c.f3.f0 c.f3.f1 c.f3.f2 c.f3.f3 c.f3.f4 c.f3.f5 c.f3.f6 c.f3.f7 c.f4 = some (bs (lineT c)) := by
  obtain ⟨h1, h2, h3, h4, h5, h6⟩ := h
  unfold lineT at h6 ⊢
  by_cases c1 : c.f0 = 1
  · rw [if_pos c1] at h6
    refine ⟨0, ?_⟩
    simp only [List.length_append, List.length_cons, List.length_nil] at h6
    rw [if_pos c1, script_lineText.f, if_pos c1, itoa_is h1, Option.bind_some, zao, if_pos (by omega), if_pos (by rw [show (⟨#[119, 111, 114, 108, 100, 32]⟩ : ByteArray) = bs [119, 111, 114, 108, 100, 32] from rfl, zbb, zao]; simp; omega), itoa_is h2, Option.bind_some,
      show (⟨#[119, 111, 114, 108, 100, 32]⟩ : ByteArray) = bs [119, 111, 114, 108, 100, 32] from rfl, show (⟨#[32]⟩ : ByteArray) = bs [32] from rfl, zbb, zbb, zao, zao, if_pos (by simp; omega), zbb]
  · by_cases c2 : c.f0 = 2
    · rw [if_neg c1, if_pos c2] at h6
      refine ⟨0, ?_⟩
      rw [if_neg c1, if_pos c2, script_lineText.f, if_neg c1, if_pos c2, script_stepText.f, if_pos ⟨by rw [Lib.size_eq]; exact h6, h3, h4, h5⟩, Option.bind_some, bs_self]
    · by_cases c3 : c.f0 = 3
      · rw [if_neg c1, if_neg c2, if_pos c3] at h6
        simp only [List.length_append, List.length_cons, List.length_nil] at h6
        have hq := quoteL_len c.f4.data.toList
        obtain ⟨k, hk⟩ := quote_is c.f4.data.toList (by omega)
        rw [bs_self] at hk
        refine ⟨k, ?_⟩
        rw [if_neg c1, if_neg c2, if_pos c3, script_lineText.f, if_neg c1, if_neg c2, if_pos c3, hk, Option.bind_some, zao, if_pos (by omega), show (⟨#[118, 97, 108, 117, 101, 32]⟩ : ByteArray) = bs [118, 97, 108, 117, 101, 32] from rfl, zbb]
      · refine ⟨0, ?_⟩
        rw [if_neg c1, if_neg c2, if_neg c3, script_lineText.f, if_neg c1, if_neg c2, if_neg c3]
        by_cases c4 : c.f0 = 4
        · rw [if_pos c4, if_pos c4]; rfl
        · rw [if_neg c4, if_neg c4]
          by_cases c5 : c.f0 = 5
          · rw [if_pos c5, if_pos c5]; rfl
          · rw [if_neg c5, if_neg c5]; rfl
/-- the text of commands; none: one has no line -/
def textT (l : List S36) : List UInt8 := l.flatMap fun c => lineT c ++ [10]
def printV (l : List S36) : List UInt8 × Int := if ∃ c ∈ l, lineT c = [] then ([], 110) else if longV (textT l) = true then ([], 3) else (textT l, 0)
def PrintOK (l : List S36) : Prop := (∀ c ∈ l, LineOK c) ∧ (textT l).length ≤ 17592186044416
instance (l : List S36) : Decidable (PrintOK l) := inferInstanceAs (Decidable (_ ∧ _))
theorem textT_take (l : List S36) (i : Nat) (h : i < l.length) : textT (l.take (i + 1)) = textT (l.take i) ++ (lineT (l[i]'h) ++ [10]) := by
  unfold textT
  rw [List.take_succ_eq_append_getElem h, List.flatMap_append]
  simp
theorem textT_le (l : List S36) (i : Nat) : (textT (l.take i)).length ≤ (textT l).length := by
  conv => rhs; rw [← List.take_append_drop i l]
  unfold textT
  rw [List.flatMap_append, List.length_append]
  omega
theorem textT_len (l : List S36) : l.length ≤ (textT l).length := by
  unfold textT
  induction l with
  | nil => simp
  | cons c l ih => rw [List.flatMap_cons, List.length_append, List.length_append, List.length_cons, List.length_singleton]; omega
theorem nil_test (l : List UInt8) : (l == []) = l.isEmpty := by cases l <;> rfl
attribute [local go_sem] zbo
set_option maxRecDepth 100000 in
set_option maxHeartbeats 4000000 in
theorem print_any (l : List S36) (A : Option Addr) (cp : Nat) (w : World) (hR : Kd.C k36 w A l.length l) (hc : l.length ≤ cp) (hT : Tab w) (hok : PrintOK l) :
    Calls Tryd.prog 10 #[.slice A l.length cp] w fun e w' => e = .returned (.tuple #[.string (bs (printV l).1), .int .i64 (printV l).2]) ∧ Below w.heap.size w w' := by
  obtain ⟨hl, ht⟩ := hok
  have hn := textT_len l
  have HL := Lib.hid hl
  have HT := Lib.hid hT
  have HR := Lib.hid hR
  clear hl hT hR
  go_enter Tryd.func10, Tryd.ntmps10
  go_wp2_with fail
  go_loopw [10] (fun i wr => ∃ k : Nat, k ≤ l.length ∧ i = .int .i64 k ∧ Hid (Bld w.heap.size w.heap.size (textT (l.take k)) wr) ∧ Hid (Below w.heap.size w wr) ∧ Hid (∀ c ∈ l.take k, lineT c ≠ [])) (fun i _ => l.length - (intOf i).toNat)
  case atStart => exact ⟨0, Nat.zero_le _, rfl, bld_new w, (Below.refl _ _).alloc (Nat.le_refl _) _, fun c h => by simp at h⟩
  case round =>
    obtain ⟨k, hk, rfl, HB, HW, HN⟩ := hrel
    by_cases hlt : k < l.length
    · obtain ⟨ad, A7, c7, A10, c10, hA, a0, a1, a2, a3, a4, a5, a6, a7, a8, a9, a10, a11, l7, r7, l10, r10⟩ := at_T36 (Kd.C_below HR.out HW.out) (k : Int) (by omega) (by omega)
      have hrd : zaf l (k : Int) = l[k]'hlt := by unfold zaf; simp [hlt]
      have HLk := HL.out _ (List.getElem_mem hlt)
      have HT1 := textT_take l k hlt
      have hNk : lineT (l[k]'hlt) ≠ [] → ∀ c ∈ l.take (k + 1), lineT c ≠ [] := fun h0 c hc => by
        rw [List.take_succ_eq_append_getElem hlt] at hc
        rcases List.mem_append.1 hc with hc | hc
        · exact HN.out c hc
        · rw [List.mem_singleton] at hc; rw [hc]; exact h0
      have hmem : lineT (l[k]'hlt) = [] → ∃ c ∈ l, lineT c = [] := fun h0 => ⟨_, List.getElem_mem hlt, h0⟩
      have hle := textT_le l (k + 1)
      rw [Int.toNat_natCast, hrd] at a0 a1 a2 a3 a4 a5 a6 a7 a8 a9 a10 a11
      rw [hrd] at l7 r7 l10 r10
      clear hrd
      generalize l[k] = c at *
      obtain ⟨kq, hkq⟩ := lineText_is c HLk
      have HC := fun W (hb : Below wr.heap.size wr W) => Lib.hid (script_lineText.calls kq c.f0 c.f1 c.f2 c.f3.f0 c.f3.f1 c.f3.f2 c.f3.f3 A7 c7 c.f3.f4 c.f3.f5 c.f3.f6 A10 c10 c.f3.f7 c.f4 (bs (lineT c)) W (Kd.C_below r7 hb) l7 (Kd.C_below r10 hb) l10 (zba HT.out (HW.out.trans (hb.mono HW.out.size))) hkq)
      have HM := Lib.hid hmem
      have HNk := Lib.hid hNk
      have HT2 := Lib.hid HT1
      have hlen : (textT (l.take k)).length + (lineT c).length + 1 ≤ 17592186044416 := by rw [HT1] at hle; simp only [List.length_append, List.length_singleton] at hle; omega
      clear HT1 hmem hNk hkq HLk hle r7 r10 l7 l10
      subst hA
      go_wp2_with fail
      refine (HC _ ((Below.refl _ _).alloc (Nat.le_refl _) _)).out.mono ?_
      rintro e w2 ⟨rfl, hb2⟩
      have hb3 := ((Below.refl wr.heap.size wr).alloc (Nat.le_refl _) (.cells #[.int .i64 c.f0, .int .i64 c.f1, .int .i64 c.f2, .int .i64 c.f3.f0, .string c.f3.f1, .string c.f3.f2, .string c.f3.f3, .slice A7 c.f3.f4.length c7, .int .i64 c.f3.f5, .int .i64 c.f3.f6, .slice A10 c.f3.f7.length c10, .string c.f4] 36)).trans (hb2.mono (by simp))
      have HB2 := Lib.hid (bld_below HB.out hb3)
      have HW2 := Lib.hid (HW.out.trans (hb3.mono HW.out.size))
      have hz2 := HW2.out.size
      clear hb2 hb3 a0 a1 a2 a3 a4 a5 a6 a7 a8 a9 a10 a11
      by_cases h0 : lineT c = []
      · have t1 : (lineT c).isEmpty = true := by rw [h0]; rfl
        have t2 : (lineT c == []) = true := by rw [h0]; rfl
        have HP : Hid (printV l = ([], 110)) := Lib.hid (by unfold printV; rw [if_pos (HM.out h0)])
        clear h0
        go_wp2
        go_ret2
        rw [HP.out]
        exact ⟨rfl, HW2.out⟩
      · have t1 : (lineT c).isEmpty = false := by rw [List.isEmpty_eq_false_iff]; exact h0
        have t2 : (lineT c == []) = false := by rw [nil_test]; exact t1
        have HN2 := Lib.hid (HNk.out h0)
        clear h0
        go_wp2_with fail
        refine (bld_str w.heap.size w.heap.size (textT (l.take k)) (lineT c) w2 HB2.out (by omega) hz2).mono ?_
        rintro e w3 ⟨rfl, h31, h32⟩
        have HB3 := Lib.hid h31
        have HW3 := Lib.hid (HW2.out.trans h32)
        have hz3 := HW3.out.size
        clear h31 h32
        go_wp2_with fail
        refine (bld_byte w.heap.size w.heap.size (textT (l.take k) ++ lineT c) 10 10 rfl w3 HB3.out (by simp only [List.length_append]; omega) hz3).mono ?_
        rintro e w4 ⟨rfl, h41, h42⟩
        have HB4 : Hid (Bld w.heap.size w.heap.size (textT (l.take (k + 1))) w4) := Lib.hid (by rw [HT2.out, ← List.append_assoc]; exact h41)
        have HW4 := Lib.hid (HW3.out.trans h42)
        clear h41 h42
        go_wp2
        go_roundw
        case rel => exact ⟨k + 1, by omega, by go_num, HB4, HW4, HN2⟩
        case measure => simp [intOf]; omega
    · obtain rfl : k = l.length := by omega
      have hz := HW.out.size
      have HB1 : Hid (Bld w.heap.size w.heap.size (textT l) wr) := Lib.hid (by have := HB.out; rwa [List.take_length] at this)
      have HN1 : Hid (¬ ∃ c ∈ l, lineT c = []) := Lib.hid (fun ⟨c, hc, h0⟩ => by have := HN.out; rw [List.take_length] at this; exact this c hc h0)
      obtain ⟨kl, hkl⟩ := Ev.rounds (long_is (textT l))
      have HLo := fun W (hT : Tab W) => Lib.hid (script_long.calls kl (bs (textT l)) (longV (textT l)) W hT hkl)
      clear hkl
      go_wp2_with fail
      refine (bld_told w.heap.size w.heap.size (textT l) wr HB1.out hz).mono ?_
      rintro e w2 ⟨rfl, h21, h22⟩
      have HB2 := Lib.hid h21
      have HW2 := Lib.hid (HW.out.trans h22)
      clear h21 h22
      go_wp2_with fail
      refine (HLo _ (zba HT.out HW2.out)).out.mono ?_
      rintro e w3 ⟨rfl, hb3⟩
      have HB3 := Lib.hid (bld_below HB2.out hb3)
      have HW3 := Lib.hid (HW2.out.trans (hb3.mono HW2.out.size))
      have hz3 := HW3.out.size
      clear hb3
      by_cases hlo : longV (textT l) = true
      · have HP : Hid (printV l = ([], 3)) := Lib.hid (by unfold printV; rw [if_neg HN1.out, if_pos hlo])
        go_wp2
        go_ret2
        rw [HP.out]
        exact ⟨rfl, HW3.out⟩
      · have HP : Hid (printV l = (textT l, 0)) := Lib.hid (by unfold printV; rw [if_neg HN1.out, if_neg hlo])
        have hlo' : longV (textT l) = false := by simpa using hlo
        clear hlo
        go_wp2_with fail
        refine (bld_told w.heap.size w.heap.size (textT l) w3 HB3.out hz3).mono ?_
        rintro e w4 ⟨rfl, h41, h42⟩
        have HW4 := Lib.hid (HW3.out.trans h42)
        clear h41 h42
        go_wp2
        go_ret2
        rw [HP.out]
        exact ⟨rfl, HW4.out⟩
namespace PS
def script_Print.f (l0 : List (S36)) : Option (ByteArray × Int) := if PrintOK l0 then some (bs (printV l0).1, (printV l0).2) else none
theorem script_Print.calls (A0 : Option Addr) (c0 : Nat) (l0 : List (S36)) (r1 : ByteArray) (r2 : Int) (w : World) (hr0 : Kd.C k36 w A0 l0.length l0) (hc0 : l0.length ≤ c0) (hT : Tab w) (h : script_Print.f l0 = some (r1, r2)) :
    Calls Tryd.prog 10 #[.slice A0 l0.length c0] w fun e w' => e = .returned (.tuple #[.string r1, .int .i64 r2]) ∧ Below w.heap.size w w' := by
  unfold script_Print.f at h
  split at h
  · next hok =>
    cases h
    exact print_any l0 A0 c0 w hr0 hc0 hT hok
  · cases h
end PS
end Go.Proofs.YtdmlgligljagoaaDoor

set_option linter.unusedVariables false
set_option linter.unusedSimpArgs false
namespace Go.Proofs.YtdmlgligljagoaaDoor
open Go.RowKit PS

/-! a step's letters -/
def applC (c : Nat) (s t : S34) : S34 :=
  if c = 98 then { s with f1 := t.f1 } else if c = 107 then { s with f2 := t.f2 } else if c = 100 then { s with f3 := t.f3 }
  else if c = 115 then { s with f5 := t.f5 } else if c = 110 then { s with f6 := t.f6 }
  else if c = 109 then { s with f4 := s.f4 ++ t.f4 } else { s with f7 := s.f7 ++ t.f7 }
def st0 (k : Int) : S34 := ⟨k, ⟨#[]⟩, ⟨#[]⟩, ⟨#[]⟩, [], 0, 0, []⟩
def clrF (f : List UInt8) (s t : S34) : S34 := f.foldl (fun s c => applC c.toNat s t) s
/-- a step with all that its kind doesn't name zero -/
def clearS (t : S34) : S34 := match script_formOf.f t.f0 with
  | some (_, f) => clrF f.data.toList (st0 t.f0) t
  | none => st0 t.f0
def pairK (p : S38) : List S88 := [wQ p.f0, wQ p.f1]
def toksC (c : Nat) (t : S34) : List S88 :=
  if c = 98 then [wQ t.f1] else if c = 107 then [wQ t.f2] else if c = 100 then [wQ t.f3]
  else if c = 115 then [wP (Lib.itoa t.f5)] else if c = 110 then [wP (Lib.itoa t.f6)]
  else if c = 109 then t.f4.flatMap pairK else t.f7.map fun n => wP (Lib.itoa n)
def toksS (f : List UInt8) (t : S34) : List S88 := f.flatMap fun c => toksC c.toNat t
def StI (t : S34) : Prop := I64 t.f5 ∧ I64 t.f6 ∧ ∀ x ∈ t.f7, I64 x
theorem toks_texts (f : List UInt8) (t : S34) : (toksS f t).map tokT = (partsV f t).map (·.data.toList) := by
  unfold toksS partsV
  induction f with
  | nil => rfl
  | cons c f ih =>
    rw [List.flatMap_cons, List.flatMap_cons, List.map_append, List.map_append, ih]
    congr 1
    unfold toksC partV
    repeat' split
    all_goals try (simp only [List.map_cons, List.map_nil, tokT_wQ, tokT_wP, zbc]; done)
    · rw [List.map_flatMap, List.map_flatMap]
      have e : (fun p => (pairK p).map tokT) = fun p => (pairT p).map (·.data.toList) := by
        funext p
        simp [pairK, pairT, tokT_wQ, zbc]
      rw [e]
    · rw [List.map_map, List.map_map]
      exact List.map_congr_left (fun n _ => by simp [tokT_wP, zbc])
theorem toks_ok (f : List UInt8) (t : S34) : ∀ x ∈ toksS f t, TokOK x := by
  intro x hx
  obtain ⟨c, _, hc⟩ := List.mem_flatMap.1 hx
  unfold toksC at hc
  repeat' split at hc
  all_goals try (rw [List.mem_singleton] at hc; subst hc; first | exact ok_wQ _ | exact ok_num _)
  · obtain ⟨p, _, hp⟩ := List.mem_flatMap.1 hc
    simp only [pairK, List.mem_cons, List.not_mem_nil, or_false] at hp
    rcases hp with rfl | rfl <;> exact ok_wQ _
  · obtain ⟨n, _, rfl⟩ := List.mem_map.1 hc
    exact ok_num n
theorem metaV_pairs (l : List S38) (br : Bool) : metaV (l.flatMap pairK) br = (l, br) := by
  induction l with
  | nil => rw [List.flatMap_nil, metaV, dif_pos rfl]
  | cons p l ih =>
    rw [List.flatMap_cons, pairK, List.cons_append, List.cons_append, List.nil_append, metaV, dif_neg (by simp)]
    dsimp only
    rw [nextV_wQ, nextV_wQ, ih]
    rfl
theorem keptV_nums (l : List Int) (br : Bool) (h : ∀ x ∈ l, I64 x) : keptV (l.map fun n => wP (Lib.itoa n)) br = (l, br) := by
  induction l with
  | nil => rw [List.map_nil, keptV, dif_pos rfl]
  | cons p l ih =>
    rw [List.map_cons, keptV, dif_neg (by simp)]
    dsimp only
    rw [numN_wP (h p List.mem_cons_self), ih (fun x hx => h x (List.mem_cons_of_mem _ hx))]
def LettL : List UInt8 → Prop
  | [] => True
  | c :: r => ((c.toNat = 98 ∨ c.toNat = 107 ∨ c.toNat = 100 ∨ c.toNat = 115 ∨ c.toNat = 110) ∨ ((c.toNat = 109 ∨ c.toNat = 108) ∧ r = [])) ∧ LettL r
theorem lett_of (f : ByteArray) (h : Letters f) : LettL f.data.toList := by
  have go : ∀ d i, i + d = f.size → LettL (f.data.toList.drop i) := by
    intro d
    induction d with
    | zero => intro i hi; rw [List.drop_of_length_le (by rw [← Lib.size_eq]; omega)]; trivial
    | succ d ih =>
      intro i hi
      have hl : i < f.data.toList.length := by rw [← Lib.size_eq]; omega
      rw [List.drop_eq_getElem_cons hl]
      refine ⟨?_, ih (i + 1) (by omega)⟩
      rcases h i (by omega) with h1 | ⟨h1, h2⟩
      · exact .inl h1
      · exact .inr ⟨h1, List.drop_of_length_le (by rw [← Lib.size_eq]; omega)⟩
  have := go f.size 0 (by omega)
  rwa [List.drop_zero] at this
theorem steps_round (t : S34) (hI : StI t) : ∀ (f : List UInt8) (s : S34), LettL f → stepsV f s (toksS f t) false = (clrF f s t, [], false)
  | [], s, _ => rfl
  | c :: r, s, h => by
    obtain ⟨hc, hr⟩ := h
    have ih := fun s => steps_round t hI r s hr
    unfold toksS at ih ⊢
    rw [List.flatMap_cons, stepsV, clrF, List.foldl_cons]
    rcases hc with (hc | hc | hc | hc | hc) | ⟨hc | hc, rfl⟩
    · rw [hc]
      have e : applV 98 s (toksC 98 t ++ r.flatMap fun c => toksC c.toNat t) false = (applC 98 s t, r.flatMap (fun c => toksC c.toNat t), false) := by
        show ({ s with f1 := (nextV true (wQ t.f1 :: _) false).1.f0 }, (nextV true (wQ t.f1 :: _) false).2) = _
        rw [nextV_wQ]; rfl
      rw [e]; exact ih _
    · rw [hc]
      have e : applV 107 s (toksC 107 t ++ r.flatMap fun c => toksC c.toNat t) false = (applC 107 s t, r.flatMap (fun c => toksC c.toNat t), false) := by
        show ({ s with f2 := (nextV true (wQ t.f2 :: _) false).1.f0 }, (nextV true (wQ t.f2 :: _) false).2) = _
        rw [nextV_wQ]; rfl
      rw [e]; exact ih _
    · rw [hc]
      have e : applV 100 s (toksC 100 t ++ r.flatMap fun c => toksC c.toNat t) false = (applC 100 s t, r.flatMap (fun c => toksC c.toNat t), false) := by
        show ({ s with f3 := (nextV true (wQ t.f3 :: _) false).1.f0 }, (nextV true (wQ t.f3 :: _) false).2) = _
        rw [nextV_wQ]; rfl
      rw [e]; exact ih _
    · rw [hc]
      have e : applV 115 s (toksC 115 t ++ r.flatMap fun c => toksC c.toNat t) false = (applC 115 s t, r.flatMap (fun c => toksC c.toNat t), false) := by
        show ({ s with f5 := (numN (wP (Lib.itoa t.f5) :: _) false).1 }, (numN (wP (Lib.itoa t.f5) :: _) false).2) = _
        rw [numN_wP hI.1]; rfl
      rw [e]; exact ih _
    · rw [hc]
      have e : applV 110 s (toksC 110 t ++ r.flatMap fun c => toksC c.toNat t) false = (applC 110 s t, r.flatMap (fun c => toksC c.toNat t), false) := by
        show ({ s with f6 := (numN (wP (Lib.itoa t.f6) :: _) false).1 }, (numN (wP (Lib.itoa t.f6) :: _) false).2) = _
        rw [numN_wP hI.2.1]; rfl
      rw [e]; exact ih _
    · rw [hc, List.flatMap_nil, List.append_nil]
      have e : applV 109 s (toksC 109 t) false = (applC 109 s t, [], false) := by
        show ({ s with f4 := s.f4 ++ (metaV (t.f4.flatMap pairK) false).1 }, [], (metaV (t.f4.flatMap pairK) false).2) = _
        rw [metaV_pairs]; rfl
      rw [e]; rfl
    · rw [hc, List.flatMap_nil, List.append_nil]
      have e : applV 108 s (toksC 108 t) false = (applC 108 s t, [], false) := by
        show ({ s with f7 := s.f7 ++ (keptV (t.f7.map fun n => wP (Lib.itoa n)) false).1 }, [], (keptV (t.f7.map fun n => wP (Lib.itoa n)) false).2) = _
        rw [keptV_nums _ _ hI.2.2]; rfl
      rw [e]; rfl
/-! a step's word -/
def wordOf (n : Nat) : ByteArray := ((script_formOf.f (n : Int)).map (·.1)).getD ⟨#[]⟩
theorem word_ne : ∀ i j : Fin 18, wordOf (i.val + 1) = wordOf (j.val + 1) → i = j := by decide +kernel
theorem word_good : ∀ i : Fin 18, wordOf (i.val + 1) ≠ bWorld ∧ wordOf (i.val + 1) ≠ bValue ∧ wordOf (i.val + 1) ≠ bDigest ∧ wordOf (i.val + 1) ≠ bUp ∧ (wordOf (i.val + 1)).data.toList ≠ [] ∧ (∀ c ∈ (wordOf (i.val + 1)).data.toList, 97 ≤ c.toNat ∧ c.toNat ≤ 122) := by decide +kernel
theorem form_word (n : Nat) (h : n < 18) : ∃ f, script_formOf.f ((n + 1 : Nat) : Int) = some (wordOf (n + 1), f) ∧ Letters f := by
  obtain ⟨wd, f, h1, h2⟩ := form_all n h
  refine ⟨f, ?_, h2⟩
  rw [h1]
  unfold wordOf
  rw [h1]; rfl
theorem cmdUp_lt (t : ByteArray) (s : S36 × List S88 × Bool) : ∀ n, n ≤ 18 → (∀ j, j < n → wordOf (j + 1) ≠ t) → cmdUp t n s = s := by
  intro n
  induction n with
  | zero => intro _ _; rfl
  | succ n ih =>
    intro hn hj
    obtain ⟨f, hf, _⟩ := form_word n (by omega)
    rw [cmdUp, hf]
    dsimp only
    rw [if_neg (hj n (by omega))]
    exact ih (by omega) (fun j h => hj j (by omega))
theorem cmdUp_ge (k : Nat) (hk : k < 18) (f : ByteArray) (hf : script_formOf.f ((k + 1 : Nat) : Int) = some (wordOf (k + 1), f)) (s : S36 × List S88 × Bool) : ∀ n, k < n → n ≤ 18 →
    cmdUp (wordOf (k + 1)) n s = (⟨2, 0, 0, (stepsV f.data.toList (st0 ((k + 1 : Nat) : Int)) s.2.1 s.2.2).1, ⟨#[]⟩⟩, (stepsV f.data.toList (st0 ((k + 1 : Nat) : Int)) s.2.1 s.2.2).2) := by
  intro n
  induction n with
  | zero => intro h; omega
  | succ n ih =>
    intro h1 h2
    obtain ⟨g, hg, _⟩ := form_word n (by omega)
    rw [cmdUp, hg]
    dsimp only
    by_cases e : n = k
    · subst e
      rw [hf] at hg
      simp only [Option.some.injEq, Prod.mk.injEq, true_and] at hg
      subst hg
      rw [if_pos rfl, cmdUp_lt _ _ n (by omega) (fun j hj e => by
        have := word_ne ⟨j, by omega⟩ ⟨n, by omega⟩ e
        simp at this; omega)]
      rfl
    · rw [if_neg (fun e2 => e (by have := word_ne ⟨n, by omega⟩ ⟨k, hk⟩ e2; simpa using this))]
      exact ih (by omega) (by omega)
/-! a command -/
def KindOK (c : S36) : Prop := c.f0 = 1 ∨ (c.f0 = 2 ∧ 1 ≤ c.f3.f0 ∧ c.f3.f0 ≤ 18) ∨ c.f0 = 3 ∨ c.f0 = 4 ∨ c.f0 = 5
instance (c : S36) : Decidable (KindOK c) := inferInstanceAs (Decidable (_ ∨ _ ∨ _ ∨ _ ∨ _))
def CmdI (c : S36) : Prop := I64 c.f1 ∧ I64 c.f2 ∧ StI c.f3
/-- a command with all that its kind doesn't name zero -/
def clearC (c : S36) : S36 :=
  if c.f0 = 1 then ⟨1, c.f1, c.f2, z34, ⟨#[]⟩⟩ else if c.f0 = 2 then ⟨2, 0, 0, clearS c.f3, ⟨#[]⟩⟩
  else if c.f0 = 3 then ⟨3, 0, 0, z34, c.f4⟩ else ⟨c.f0, 0, 0, z34, ⟨#[]⟩⟩
theorem join_tokens (t : List UInt8) (l : List S88) (ps : List ByteArray) (h : l.map tokT = ps.map (·.data.toList)) : (joinSp (bs t :: ps)).data.toList = tokens (wP t :: l) := by
  unfold joinSp tokens
  rw [zbc, List.map_cons, List.map_cons, zbc, tokT_wP, h]
theorem lineV_tokens (x : S88) (l : List S88) (hx : ∀ y ∈ x :: l, TokOK y) (h1 : x.f1 = false) : lineV (tokens (x :: l)) = ((cmdW x.f0 l).1, (cmdW x.f0 l).1.f0 != 0 && (!(cmdW x.f0 l).2.2 && (cmdW x.f0 l).2.1.isEmpty)) := by
  unfold lineV
  rw [wordsV_tokens _ (by simp) hx]
  dsimp only
  rw [cmdV, if_neg (by rw [h1]; simp)]
theorem ok_wd {t : List UInt8} (h0 : t ≠ []) (h : ∀ c ∈ t, 97 ≤ c.toNat ∧ c.toNat ≤ 122) : TokOK (wP t) := by
  refine .inr ⟨by rw [wP, zbc]; exact h0, fun c hc e => ?_, ?_⟩
  · rw [wP, zbc] at hc
    have := h c hc; subst e; simp at this
  · rw [wP, zbc]
    cases t with
    | nil => simp
    | cons c r =>
      intro e
      simp only [List.head?_cons, Option.some.injEq] at e
      have := h c List.mem_cons_self; subst e; simp at this
/-- a command's line, word by word -/
theorem line_tokens (c : S36) (hk : KindOK c) : ∃ t l, lineT c = tokens (wP t :: l) ∧ t ≠ [] ∧ (∀ d ∈ t, 97 ≤ d.toNat ∧ d.toNat ≤ 122) ∧ (∀ y ∈ l, TokOK y) ∧ (CmdI c → (cmdW (bs t) l).1 = clearC c ∧ (cmdW (bs t) l).2 = ([], false)) := by
  rcases hk with h | ⟨h, h1, h2⟩ | h | h | h
  · refine ⟨[119, 111, 114, 108, 100], [wP (Lib.itoa c.f1), wP (Lib.itoa c.f2)], ?_, by simp, by decide, ?_, ?_⟩
    · unfold lineT
      rw [if_pos h, tokens_cons, tokens_cons, tokens_one, tokT_wP, tokT_wP, tokT_wP]
      simp
    · intro y hy
      simp only [List.mem_cons, List.not_mem_nil, or_false] at hy
      rcases hy with rfl | rfl <;> exact ok_num _
    · intro hI
      have e : cmdW (bs [119, 111, 114, 108, 100]) [wP (Lib.itoa c.f1), wP (Lib.itoa c.f2)] = (⟨1, c.f1, c.f2, z34, ⟨#[]⟩⟩, [], false) := by
        unfold cmdW
        rw [if_pos (show bs [119, 111, 114, 108, 100] = bWorld from rfl), numN_wP hI.1]
        dsimp only
        rw [numN_wP hI.2.1]
      rw [e]; unfold clearC; rw [if_pos h]; exact ⟨rfl, rfl⟩
  · obtain ⟨n, hn⟩ := Int.eq_ofNat_of_zero_le (show 0 ≤ c.f3.f0 - 1 by omega)
    have hn2 : c.f3.f0 = ((n + 1 : Nat) : Int) := by omega
    obtain ⟨f, hf, hL⟩ := form_word n (by omega)
    obtain ⟨g1, g2, g3, g4, g5, g6⟩ := word_good ⟨n, by omega⟩
    dsimp only at g1 g2 g3 g4 g5 g6
    refine ⟨(wordOf (n + 1)).data.toList, toksS f.data.toList c.f3, ?_, g5, g6, toks_ok _ _, ?_⟩
    · unfold lineT
      rw [if_neg (by omega), if_pos h, stepL, hn2, hf]
      dsimp only
      rw [← join_tokens _ _ _ (toks_texts f.data.toList c.f3), bs_self]
    · intro hI
      have e : cmdW (bs (wordOf (n + 1)).data.toList) (toksS f.data.toList c.f3) = (⟨2, 0, 0, clearS c.f3, ⟨#[]⟩⟩, [], false) := by
        rw [bs_self]
        unfold cmdW
        rw [if_neg g1, if_neg g2, if_neg g3, if_neg g4, cmdUp_ge n (by omega) f hf _ 18 (by omega) (by omega)]
        dsimp only
        rw [steps_round c.f3 hI.2.2 _ _ (lett_of f hL)]
        unfold clearS
        rw [hn2, hf]
      rw [e]; unfold clearC; rw [if_neg (by omega), if_pos h]; exact ⟨rfl, rfl⟩
  · refine ⟨[118, 97, 108, 117, 101], [wQ c.f4], ?_, by simp, by decide, ?_, ?_⟩
    · unfold lineT
      rw [if_neg (by omega), if_neg (by omega), if_pos h, tokens_cons, tokens_one, tokT_wP, tokT_wQ]
      simp
    · intro y hy
      rw [List.mem_singleton] at hy; subst hy; exact ok_wQ _
    · intro hI
      have e : cmdW (bs [118, 97, 108, 117, 101]) [wQ c.f4] = (⟨3, 0, 0, z34, c.f4⟩, [], false) := by
        unfold cmdW
        rw [if_neg (show ¬ bs [118, 97, 108, 117, 101] = bWorld from by decide), if_pos (show bs [118, 97, 108, 117, 101] = bValue from rfl), nextV_wQ]
        rfl
      rw [e]; unfold clearC; rw [if_neg (by omega), if_neg (by omega), if_pos h]; exact ⟨rfl, rfl⟩
  · refine ⟨[100, 105, 103, 101, 115, 116], [], ?_, by simp, by decide, by simp, ?_⟩
    · unfold lineT
      rw [if_neg (by omega), if_neg (by omega), if_neg (by omega), if_pos h, tokens_one, tokT_wP]
    · intro hI
      unfold clearC
      rw [if_neg (by omega), if_neg (by omega), if_neg (by omega), h]
      exact ⟨rfl, rfl⟩
  · refine ⟨[117, 112], [], ?_, by simp, by decide, by simp, ?_⟩
    · unfold lineT
      rw [if_neg (by omega), if_neg (by omega), if_neg (by omega), if_neg (by omega), if_pos h, tokens_one, tokT_wP]
    · intro hI
      unfold clearC
      rw [if_neg (by omega), if_neg (by omega), if_neg (by omega), h]
      exact ⟨rfl, rfl⟩
theorem line_round (c : S36) (hk : KindOK c) (hI : CmdI c) : lineV (lineT c) = (clearC c, true) := by
  obtain ⟨t, l, h1, h2, h3, h4, h5⟩ := line_tokens c hk
  obtain ⟨h6, h7⟩ := h5 hI
  rw [h1, lineV_tokens (wP t) l (fun y hy => by
    rcases List.mem_cons.1 hy with rfl | hy
    · exact ok_wd h2 h3
    · exact h4 y hy) rfl, show (wP t).f0 = bs t from rfl, h7, h6]
  congr 1
  have hz : (clearC c).f0 ≠ 0 := by
    unfold clearC
    rcases hk with h | ⟨h, _⟩ | h | h | h
    · rw [if_pos h]; show (1 : Int) ≠ 0; decide
    · rw [if_neg (by omega), if_pos h]; show (2 : Int) ≠ 0; decide
    · rw [if_neg (by omega), if_neg (by omega), if_pos h]; show (3 : Int) ≠ 0; decide
    · rw [if_neg (by omega), if_neg (by omega), if_neg (by omega)]; dsimp only; omega
    · rw [if_neg (by omega), if_neg (by omega), if_neg (by omega)]; dsimp only; omega
  simp [hz]
end Go.Proofs.YtdmlgligljagoaaDoor

set_option linter.unusedVariables false
set_option linter.unusedSimpArgs false
namespace Go.Proofs.YtdmlgligljagoaaDoor
open Go.RowKit PS

theorem lineT_head (c : S36) (hk : KindOK c) : ∃ d r, lineT c = d :: r ∧ 97 ≤ d.toNat := by
  obtain ⟨t, l, h1, h2, h3, _⟩ := line_tokens c hk
  cases t with
  | nil => exact absurd rfl h2
  | cons d t =>
    have hd := (h3 d List.mem_cons_self).1
    cases l with
    | nil => exact ⟨d, t, by rw [h1, tokens_one, tokT_wP], hd⟩
    | cons y l => exact ⟨d, t ++ 32 :: tokens (y :: l), by rw [h1, tokens_cons, tokT_wP]; rfl, hd⟩
theorem parseG_app (a b : List (List UInt8)) : parseG (a ++ b) = (parseG a).bind fun x => (parseG b).map fun y => x ++ y := by
  induction a with
  | nil =>
    rw [List.nil_append, parseG, Option.bind_some]
    cases parseG b <;> rfl
  | cons x a ih =>
    rw [List.cons_append, parseG, parseG]
    split
    · exact ih
    · split
      · rw [ih]
        cases parseG a with
        | none => rfl
        | some p => cases parseG b <;> rfl
      · rfl
theorem parseG_lines (l : List S36) (h : ∀ c ∈ l, KindOK c ∧ CmdI c) : parseG (l.map lineT) = some (l.map clearC) := by
  induction l with
  | nil => rfl
  | cons c l ih =>
    obtain ⟨hk, hI⟩ := h c List.mem_cons_self
    obtain ⟨d, r, e, hd⟩ := lineT_head c hk
    rw [List.map_cons, parseG, if_neg (by rw [e]; simp; intro e2; subst e2; simp at hd), line_round c hk hI, if_pos rfl, ih (fun x hx => h x (List.mem_cons_of_mem _ hx))]
    rfl
theorem lineT_ne (c : S36) (hk : KindOK c) : lineT c ≠ [] := by
  obtain ⟨d, r, e, _⟩ := lineT_head c hk
  rw [e]; simp
theorem lineT_none (c : S36) (hk : ¬ KindOK c) : lineT c = [] := by
  unfold KindOK at hk
  unfold lineT
  rw [if_neg (by omega)]
  by_cases h2 : c.f0 = 2
  · rw [if_pos h2]
    have h3 : script_formOf.f c.f3.f0 = some (⟨#[]⟩, ⟨#[]⟩) := by
      unfold script_formOf.f
      repeat rw [if_neg (by omega)]
    rw [stepL, h3]
    rfl
  · rw [if_neg h2, if_neg (by omega), if_neg (by omega), if_neg (by omega)]
theorem printV_ok (l : List S36) (h : ∀ c ∈ l, KindOK c) : printV l = if longV (textT l) = true then ([], 3) else (textT l, 0) := by
  unfold printV
  rw [if_neg (fun ⟨c, hc, e⟩ => lineT_ne c (h c hc) e)]
theorem printV_bad (l : List S36) (h : ¬ ∀ c ∈ l, KindOK c) : printV l = ([], 110) := by
  unfold printV
  rw [if_pos]
  simp only [Classical.not_forall] at h
  obtain ⟨c, hc, hk⟩ := h
  exact ⟨c, hc, lineT_none c hk⟩
/-! what is read is clean -/
theorem numV_I64 (x : S88) : I64 (numV x).1 := by
  unfold numV
  dsimp only
  generalize hg : numV.go (Lib.trimPrefix x.f0.data.toList [45]) 0 0 = g
  cases g with
  | none => dsimp only; unfold I64; omega
  | some n =>
    have hI := go_I64 _ _ _ _ hg (by unfold I64; omega)
    dsimp only
    split
    · exact wrap_I64 _
    · exact hI
theorem numN_I64 (l : List S88) (br : Bool) : I64 (numN l br).1 := numV_I64 _
theorem keptV_I64 : ∀ n (l : List S88) (br : Bool), l.length ≤ n → (∀ x ∈ (keptV l br).1, I64 x) ∧ (keptV l br).1.length ≤ l.length := by
  intro n
  induction n with
  | zero =>
    intro l br h
    obtain rfl : l = [] := List.length_eq_zero_iff.1 (by omega)
    rw [keptV, dif_pos rfl]; exact ⟨fun x hx => by simp at hx, by simp⟩
  | succ n ih =>
    intro l br h
    by_cases hl : l = []
    · subst hl; rw [keptV, dif_pos rfl]; exact ⟨fun x hx => by simp at hx, by simp⟩
    · rw [keptV, dif_neg hl]
      dsimp only
      have hlt : (numN l br).2.1.length < l.length := nextV_len false l br hl
      obtain ⟨h1, h2⟩ := ih (numN l br).2.1 (numN l br).2.2 (by omega)
      refine ⟨fun x hx => ?_, by rw [List.length_cons]; omega⟩
      rcases List.mem_cons.1 hx with rfl | hx
      · exact numN_I64 _ _
      · exact h1 x hx
/-- words none of which is longer than B bytes, and at most B of them -/
def WS (B : Nat) (l : List S88) : Prop := l.length ≤ B ∧ ∀ x ∈ l, x.f0.size ≤ B
theorem WS.next {B : Nat} {l : List S88} (h : WS B l) (q br : Bool) : WS B (nextV q l br).2.1 ∧ (nextV q l br).1.f0.size ≤ B := by
  have hz : z88.f0.size ≤ B := by show 0 ≤ B; omega
  cases l with
  | nil => exact ⟨⟨by simp [nextV], fun x hx => by simp [nextV] at hx⟩, hz⟩
  | cons x r =>
    obtain ⟨h1, h2⟩ := h
    simp only [List.length_cons] at h1
    by_cases hx : x.f1 = q
    · rw [nextV_hit r br hx]; exact ⟨⟨by dsimp only; omega, fun y hy => h2 y (List.mem_cons_of_mem _ hy)⟩, h2 x List.mem_cons_self⟩
    · rw [nextV_miss r br hx]; exact ⟨⟨by simp, fun x hx => by simp at hx⟩, hz⟩
theorem metaV_WS : ∀ n (B : Nat) (l : List S88) (br : Bool), l.length ≤ n → WS B l → (∀ p ∈ (metaV l br).1, p.f0.size ≤ B ∧ p.f1.size ≤ B) ∧ (metaV l br).1.length ≤ l.length := by
  intro n
  induction n with
  | zero =>
    intro B l br h hW
    obtain rfl : l = [] := List.length_eq_zero_iff.1 (by omega)
    rw [metaV, dif_pos rfl]; exact ⟨fun x hx => by simp at hx, by simp⟩
  | succ n ih =>
    intro B l br h hW
    by_cases hl : l = []
    · subst hl; rw [metaV, dif_pos rfl]; exact ⟨fun x hx => by simp at hx, by simp⟩
    · rw [metaV, dif_neg hl]
      dsimp only
      have hlt := nextV_len true l br hl
      obtain ⟨w1, s1⟩ := hW.next true br
      have hle := nextV_le true (nextV true l br).2.1 (nextV true l br).2.2
      obtain ⟨w2, s2⟩ := w1.next true (nextV true l br).2.2
      obtain ⟨h1, h2⟩ := ih B _ (nextV true (nextV true l br).2.1 (nextV true l br).2.2).2.2 (by omega) w2
      refine ⟨fun p hp => ?_, by rw [List.length_cons]; omega⟩
      rcases List.mem_cons.1 hp with rfl | hp
      · exact ⟨s1, s2⟩
      · exact h1 p hp
/-- a step that is clean: its numbers int64, its texts and lists no longer than B -/
structure StClean (B : Nat) (s : S34) : Prop where
  i : StI s
  s1 : s.f1.size ≤ B
  s2 : s.f2.size ≤ B
  s3 : s.f3.size ≤ B
  n4 : s.f4.length ≤ B
  p4 : ∀ p ∈ s.f4, p.f0.size ≤ B ∧ p.f1.size ≤ B
  n7 : s.f7.length ≤ B
theorem applV_clean {B : Nat} (c : Nat) (s : S34) (l : List S88) (br : Bool) (hs : StClean B s) (hW : WS B l) (h4 : c = 109 → s.f4 = []) (h7 : c = 108 → s.f7 = []) (hc : (c = 98 ∨ c = 107 ∨ c = 100 ∨ c = 115 ∨ c = 110) ∨ (c = 109 ∨ c = 108)) :
    StClean B (applV c s l br).1 ∧ WS B (applV c s l br).2.1 := by
  obtain ⟨i, s1, s2, s3, n4, p4, n7⟩ := hs
  obtain ⟨w1, q1⟩ := hW.next true br
  have w2 : WS B (numN l br).2.1 := (hW.next false br).1
  rcases hc with (rfl | rfl | rfl | rfl | rfl) | rfl | rfl
  · exact ⟨⟨i, q1, s2, s3, n4, p4, n7⟩, w1⟩
  · exact ⟨⟨i, s1, q1, s3, n4, p4, n7⟩, w1⟩
  · exact ⟨⟨i, s1, s2, q1, n4, p4, n7⟩, w1⟩
  · exact ⟨⟨⟨numN_I64 l br, i.2⟩, s1, s2, s3, n4, p4, n7⟩, w2⟩
  · exact ⟨⟨⟨i.1, numN_I64 l br, i.2.2⟩, s1, s2, s3, n4, p4, n7⟩, w2⟩
  · obtain ⟨m1, m2⟩ := metaV_WS _ B l br (Nat.le_refl _) hW
    have hl := hW.1
    refine ⟨⟨i, s1, s2, s3, ?_, ?_, n7⟩, ⟨Nat.zero_le _, fun x hx => by simp [applV] at hx⟩⟩
    · show (s.f4 ++ (metaV l br).1).length ≤ B
      rw [h4 rfl, List.nil_append]; omega
    · show ∀ p ∈ s.f4 ++ (metaV l br).1, _
      rw [h4 rfl, List.nil_append]; exact m1
  · obtain ⟨m1, m2⟩ := keptV_I64 _ l br (Nat.le_refl _)
    have hl := hW.1
    refine ⟨⟨⟨i.1, i.2.1, ?_⟩, s1, s2, s3, n4, p4, ?_⟩, ⟨Nat.zero_le _, fun x hx => by simp [applV] at hx⟩⟩
    · show ∀ x ∈ s.f7 ++ (keptV l br).1, I64 x
      rw [h7 rfl, List.nil_append]; exact m1
    · show (s.f7 ++ (keptV l br).1).length ≤ B
      rw [h7 rfl, List.nil_append]; omega
theorem applV_keeps (c : Nat) (s : S34) (l : List S88) (br : Bool) (hc : c = 98 ∨ c = 107 ∨ c = 100 ∨ c = 115 ∨ c = 110) : (applV c s l br).1.f4 = s.f4 ∧ (applV c s l br).1.f7 = s.f7 := by
  rcases hc with rfl | rfl | rfl | rfl | rfl <;> exact ⟨rfl, rfl⟩
theorem stepsV_clean {B : Nat} : ∀ (f : List UInt8) (s : S34) (l : List S88) (br : Bool), LettL f → StClean B s → WS B l → s.f4 = [] → s.f7 = [] → StClean B (stepsV f s l br).1
  | [], s, l, br, _, h, _, _, _ => h
  | c :: r, s, l, br, ⟨hc, hr⟩, h, hW, h4, h7 => by
    rw [stepsV]
    obtain ⟨a1, a2⟩ := applV_clean c.toNat s l br h hW (fun _ => h4) (fun _ => h7) (hc.imp id (·.1))
    rcases hc with hc | ⟨hc, rfl⟩
    · obtain ⟨k4, k7⟩ := applV_keeps c.toNat s l br hc
      exact stepsV_clean r _ _ _ hr a1 a2 (k4.trans h4) (k7.trans h7)
    · exact a1
theorem clear_idem (n : Fin 18) (l : List S88) (br : Bool) (f : ByteArray) (hf : script_formOf.f ((n.val + 1 : Nat) : Int) = some (wordOf (n.val + 1), f)) : clearS (stepsV f.data.toList (st0 ((n.val + 1 : Nat) : Int)) l br).1 = (stepsV f.data.toList (st0 ((n.val + 1 : Nat) : Int)) l br).1 := by
  match n, hf with
  | ⟨0, _⟩, hf => cases hf; rfl
  | ⟨1, _⟩, hf => cases hf; rfl
  | ⟨2, _⟩, hf => cases hf; rfl
  | ⟨3, _⟩, hf => cases hf; rfl
  | ⟨4, _⟩, hf => cases hf; rfl
  | ⟨5, _⟩, hf => cases hf; rfl
  | ⟨6, _⟩, hf => cases hf; rfl
  | ⟨7, _⟩, hf => cases hf; rfl
  | ⟨8, _⟩, hf => cases hf; rfl
  | ⟨9, _⟩, hf => cases hf; rfl
  | ⟨10, _⟩, hf => cases hf; rfl
  | ⟨11, _⟩, hf => cases hf; rfl
  | ⟨12, _⟩, hf => cases hf; rfl
  | ⟨13, _⟩, hf => cases hf; rfl
  | ⟨14, _⟩, hf => cases hf; rfl
  | ⟨15, _⟩, hf => cases hf; rfl
  | ⟨16, _⟩, hf => cases hf; rfl
  | ⟨17, _⟩, hf => cases hf; rfl
  | ⟨k + 18, h⟩, _ => omega
end Go.Proofs.YtdmlgligljagoaaDoor

set_option linter.unusedVariables false
set_option linter.unusedSimpArgs false
namespace Go.Proofs.YtdmlgligljagoaaDoor
open Go.RowKit PS

structure Clean (B : Nat) (c : S36) : Prop where
  kind : KindOK c
  ints : CmdI c
  same : clearC c = c
  st : StClean B c.f3
  s4 : c.f4.size ≤ B
theorem I64_0 : I64 0 := by unfold I64; omega
theorem st0_clean (B : Nat) (k : Int) : StClean B (st0 k) :=
  ⟨⟨I64_0, I64_0, fun x hx => by simp [st0] at hx⟩, Nat.zero_le _, Nat.zero_le _, Nat.zero_le _, Nat.zero_le _, fun p hp => by simp [st0] at hp, Nat.zero_le _⟩
theorem zst_clean (B : Nat) : StClean B z34 := st0_clean B 0
theorem form_f0 (n : Nat) (h : n < 18) (f : ByteArray) (hf : script_formOf.f ((n + 1 : Nat) : Int) = some (wordOf (n + 1), f)) (l : List S88) (br : Bool) : (stepsV f.data.toList (st0 ((n + 1 : Nat) : Int)) l br).1.f0 = ((n + 1 : Nat) : Int) := by
  have go : ∀ (f : List UInt8) (s : S34) (l : List S88) (br : Bool), (stepsV f s l br).1.f0 = s.f0 := by
    intro f
    induction f with
    | nil => intro s l br; rfl
    | cons c r ih =>
      intro s l br
      rw [stepsV, ih]
      unfold applV
      repeat' split
      all_goals rfl
  rw [go]; rfl
theorem cmdW_clean {B : Nat} (t : ByteArray) (r : List S88) (hW : WS B r) (h0 : (cmdW t r).1.f0 ≠ 0) : Clean B (cmdW t r).1 := by
  unfold cmdW at h0 ⊢
  split
  · exact ⟨.inl rfl, ⟨numN_I64 _ _, numN_I64 _ _, (zst_clean B).i⟩, rfl, zst_clean B, Nat.zero_le _⟩
  · split
    · exact ⟨.inr (.inr (.inl rfl)), ⟨I64_0, I64_0, (zst_clean B).i⟩, rfl, zst_clean B, (hW.next true false).2⟩
    · split
      · exact ⟨.inr (.inr (.inr (.inl rfl))), ⟨I64_0, I64_0, (zst_clean B).i⟩, rfl, zst_clean B, Nat.zero_le _⟩
      · split
        · exact ⟨.inr (.inr (.inr (.inr rfl))), ⟨I64_0, I64_0, (zst_clean B).i⟩, rfl, zst_clean B, Nat.zero_le _⟩
        · next h1 h2 h3 h4 =>
          rw [if_neg h1, if_neg h2, if_neg h3, if_neg h4] at h0
          by_cases hk : ∃ k, k < 18 ∧ wordOf (k + 1) = t
          · obtain ⟨k, hk, rfl⟩ := hk
            obtain ⟨f, hf, hL⟩ := form_word k hk
            rw [cmdUp_ge k hk f hf _ 18 hk (by omega)]
            have hc := stepsV_clean f.data.toList (st0 ((k + 1 : Nat) : Int)) r false (lett_of f hL) (st0_clean B _) hW rfl rfl
            have hz := form_f0 k hk f hf r false
            refine ⟨.inr (.inl ⟨rfl, ?_, ?_⟩), ⟨I64_0, I64_0, hc.i⟩, ?_, hc, Nat.zero_le _⟩
            · show 1 ≤ (stepsV f.data.toList (st0 ((k + 1 : Nat) : Int)) r false).1.f0
              rw [hz]; omega
            · show (stepsV f.data.toList (st0 ((k + 1 : Nat) : Int)) r false).1.f0 ≤ 18
              rw [hz]; omega
            · unfold clearC
              rw [if_neg (show ¬ (2 : Int) = 1 from by decide), if_pos rfl]
              dsimp only
              rw [clear_idem ⟨k, hk⟩ r false f hf]
          · rw [cmdUp_lt t _ 18 (by omega) (fun j hj e => hk ⟨j, hj, e⟩)] at h0
            exact absurd rfl h0
theorem lineV_clean (s : List UInt8) (h : (lineV s).2 = true) : Clean s.length (lineV s).1 := by
  unfold lineV at h ⊢
  rcases wordsL_sound (s.length + 1) s with ⟨l, e, hl, h1, h2⟩ | e
  · have e' : wordsV s = (l, true) := e
    rw [e'] at h ⊢
    cases l with
    | nil => exact absurd rfl hl
    | cons x r =>
      rw [cmdV] at h ⊢
      split at h
      · simp at h
      · next hx =>
        rw [if_neg hx]
        dsimp only at h ⊢
        simp only [Bool.and_eq_true, bne_iff_ne, ne_eq] at h
        refine cmdW_clean x.f0 r ⟨by simp only [List.length_cons] at h1; omega, fun y hy => h2 y (List.mem_cons_of_mem _ hy)⟩ h.1
  · have e' : wordsV s = ([], false) := e
    rw [e'] at h
    simp [cmdV] at h
theorem Clean.mono {B B' : Nat} {c : S36} (h : Clean B c) (hb : B ≤ B') : Clean B' c := by
  obtain ⟨k, i, s, ⟨i2, s1, s2, s3, n4, p4, n7⟩, s4⟩ := h
  exact ⟨k, i, s, ⟨i2, by omega, by omega, by omega, by omega, fun p hp => by have := p4 p hp; omega, by omega⟩, by omega⟩
theorem parseG_clean (B : Nat) : ∀ (ls : List (List UInt8)) (l : List S36), (∀ x ∈ ls, x ≠ [] → x.length ≤ B) → parseG ls = some l → (∀ c ∈ l, Clean B c) ∧ l.length ≤ (ls.filter (fun x => !x.isEmpty)).length
  | [], l, _, h => by rw [parseG] at h; cases h; exact ⟨fun c hc => by simp at hc, by simp⟩
  | x :: ls, l, hx, h => by
    rw [parseG] at h
    have ih := fun l => parseG_clean B ls l (fun y hy => hx y (List.mem_cons_of_mem _ hy))
    split at h
    · obtain ⟨h1, h2⟩ := ih l h
      refine ⟨h1, Nat.le_trans h2 ?_⟩
      rw [List.filter_cons]
      split <;> simp
    · next hne =>
      split at h
      · next hok =>
        obtain ⟨m, hm, rfl⟩ := Option.map_eq_some_iff.1 h
        obtain ⟨h1, h2⟩ := ih m hm
        have hxe : x ≠ [] := fun e => hne (.inl e)
        refine ⟨fun c hc => ?_, ?_⟩
        · rcases List.mem_cons.1 hc with rfl | hc
          · exact (lineV_clean x hok).mono (hx x List.mem_cons_self hxe)
          · exact h1 c hc
        · rw [List.filter_cons, if_pos (by simpa using hxe), List.length_cons, List.length_cons]; omega
      · cases h
theorem dropE_mem (ls : List (List UInt8)) (x : List UInt8) (h : x ∈ ls) (h0 : x ≠ []) : x ∈ dropE ls := by
  unfold dropE
  split
  · next hl =>
    have hne : ls ≠ [] := fun e => by rw [e] at h; simp at h
    have := List.dropLast_concat_getLast hne
    rw [← this] at h
    rcases List.mem_append.1 h with h | h
    · exact h
    · rw [List.mem_singleton] at h
      rw [List.getLast?_eq_some_getLast hne] at hl
      simp only [Option.some.injEq] at hl
      exact absurd (h.trans hl) h0
  · exact h
theorem filter_drop (ls : List (List UInt8)) : (ls.filter (fun x => !x.isEmpty)).length ≤ (dropE ls).length := by
  unfold dropE
  split
  · next hl =>
    have hne : ls ≠ [] := fun e => by rw [e] at hl; simp at hl
    have := List.dropLast_concat_getLast hne
    rw [List.getLast?_eq_some_getLast hne] at hl
    simp only [Option.some.injEq] at hl
    rw [hl] at this
    conv => lhs; rw [← this]
    rw [List.filter_append, List.length_append]
    have := List.length_filter_le (fun x : List UInt8 => !x.isEmpty) ls.dropLast
    simpa using this
  · exact List.length_filter_le _ _
theorem longV_no {s : List UInt8} (h : ¬ longV s = true) : s.length ≤ 65536 ∧ (∀ x ∈ dropE (zas s), x.length ≤ 8192) ∧ (dropE (zas s)).length ≤ 1024 := by
  refine ⟨longV_len h, ?_⟩
  unfold longV at h
  simp only [Bool.or_eq_true, decide_eq_true_eq, List.any_eq_true, not_or, not_exists, not_and, Nat.not_lt] at h
  exact ⟨h.2.1, h.2.2⟩
theorem parse_clean {s : List UInt8} {l : List S36} (h : parseV s = (l, 0)) : (∀ c ∈ l, Clean 8192 c) ∧ l.length ≤ 1024 := by
  unfold parseV at h
  split at h
  · simp at h
  · next hl =>
    obtain ⟨h1, h2, h3⟩ := longV_no hl
    cases hg : parseG (zas s) with
    | none => rw [hg] at h; simp [parseR] at h
    | some m =>
      rw [hg] at h
      simp only [parseR, Prod.mk.injEq, and_true] at h
      subst h
      obtain ⟨g1, g2⟩ := parseG_clean 8192 _ _ (fun x hx h0 => h2 x (dropE_mem _ x hx h0)) hg
      exact ⟨g1, Nat.le_trans g2 (Nat.le_trans (filter_drop _) h3)⟩
/-! how long a clean command's line may be -/
end Go.Proofs.YtdmlgligljagoaaDoor

namespace Go.Proofs.YtdmlgligljagoaaDoor.PS
open Go.RowKit Go.Proofs.YtdmlgligljagoaaDoorW.PrintWords Go.Proofs.YtdmlgligljagoaaDoorW.PrintLast Go.Proofs.YtdmlgligljagoaaDoorW.PrintMore
attribute [local go_sem] zbg zbh max_two min_two zbe zbf zbi zbj   -- for this text's walks alone
set_option linter.unusedVariables false
set_option linter.unusedSimpArgs false

theorem eqA38 (d : Nat) (w : World) (x0 y0 : ByteArray) (x1 y1 : ByteArray) :
  (Op.equalIn (d + 2) 38 (.agg #[.string x0, .string x1]) (.agg #[.string y0, .string y1])).run Tryd.prog w = .ok (x0.toList == y0.toList && (x1.toList == y1.toList)) w := by
 refine eqA_of Tryd.underlying38 (by kernel_rfl) ?_
 refine eqf_cons (by rfl) (by go_simp; rfl) (by go_simp; rfl) (by go_simp) ?_
 exact eqf_last (by rfl) (by go_simp; rfl) (by go_simp; rfl) (by go_simp)
end Go.Proofs.YtdmlgligljagoaaDoor.PS

namespace Go.Proofs.YtdmlgligljagoaaDoor.PS
open Go.RowKit Go.Proofs.YtdmlgligljagoaaDoorW.PrintWords Go.Proofs.YtdmlgligljagoaaDoorW.PrintLast Go.Proofs.YtdmlgligljagoaaDoorW.PrintMore
attribute [local go_sem] zbg zbh max_two min_two zbe zbf zbi zbj   -- for this text's walks alone
set_option linter.unusedVariables false
set_option linter.unusedSimpArgs false

attribute [local go_sem high] eqA38
/-! ### cofferref22_SameStep: function 33 -/
mutual
def cofferref22_SameStep.j0 : Nat → Bool → Int → ByteArray → ByteArray → ByteArray → List (S38) → Int → Int → List Int → Int → ByteArray → ByteArray → ByteArray → List (S38) → Int → Int → List Int → Option (Bool)
 | 0, _, _, _, _, _, _, _, _, _, _, _, _, _, _, _, _, _ => none
 | k + 1, x64, x415000, x415001, x415002, x415003, x415004, x415005, x415006, x415007, x416000, x416001, x416002, x416003, x416004, x416005, x416006, x416007 => if x64 = true then (some false) else (cofferref22_SameStep.l0 k 0 x415000 x415001 x415002 x415003 x415004 x415005 x415006 x415007 x416000 x416001 x416002 x416003 x416004 x416005 x416006 x416007)
def cofferref22_SameStep.l0 : Nat → Int → Int → ByteArray → ByteArray → ByteArray → List (S38) → Int → Int → List Int → Int → ByteArray → ByteArray → ByteArray → List (S38) → Int → Int → List Int → Option (Bool)
 | 0, _, _, _, _, _, _, _, _, _, _, _, _, _, _, _, _, _ => none
 | k + 1, x5, x415000, x415001, x415002, x415003, x415004, x415005, x415006, x415007, x416000, x416001, x416002, x416003, x416004, x416005, x416006, x416007 => if x5 < (x415004.length : Int) then (if 0 ≤ x5 then (if x5 < (x416004.length : Int) then (if (!((((rd_T38 x415004 x5).f0).toList) == (((rd_T38 x416004 x5).f0).toList)) || (!((((rd_T38 x415004 x5).f1).toList) == (((rd_T38 x416004 x5).f1).toList)))) = true then (some false) else (cofferref22_SameStep.l0 k (wrap64 (x5 + 1)) x415000 x415001 x415002 x415003 x415004 x415005 x415006 x415007 x416000 x416001 x416002 x416003 x416004 x416005 x416006 x416007)) else (none)) else (none)) else (cofferref22_SameStep.l1 k 0 x415000 x415001 x415002 x415003 x415004 x415005 x415006 x415007 x416000 x416001 x416002 x416003 x416004 x416005 x416006 x416007)
def cofferref22_SameStep.l1 : Nat → Int → Int → ByteArray → ByteArray → ByteArray → List (S38) → Int → Int → List Int → Int → ByteArray → ByteArray → ByteArray → List (S38) → Int → Int → List Int → Option (Bool)
 | 0, _, _, _, _, _, _, _, _, _, _, _, _, _, _, _, _, _ => none
 | k + 1, x6, x415000, x415001, x415002, x415003, x415004, x415005, x415006, x415007, x416000, x416001, x416002, x416003, x416004, x416005, x416006, x416007 => if x6 < (x415007.length : Int) then (if 0 ≤ x6 then (if x6 < (x416007.length : Int) then (if (rd x415007 x6) = (rd x416007 x6) then (cofferref22_SameStep.l1 k (wrap64 (x6 + 1)) x415000 x415001 x415002 x415003 x415004 x415005 x415006 x415007 x416000 x416001 x416002 x416003 x416004 x416005 x416006 x416007) else (some false)) else (none)) else (none)) else (some true)
end
def cofferref22_SameStep.f (k : Nat) (a0_0 : Int) (a0_1 : ByteArray) (a0_2 : ByteArray) (a0_3 : ByteArray) (l0_4 : List (S38)) (a0_5 : Int) (a0_6 : Int) (l0_7 : List Int) (a1_0 : Int) (a1_1 : ByteArray) (a1_2 : ByteArray) (a1_3 : ByteArray) (l1_4 : List (S38)) (a1_5 : Int) (a1_6 : Int) (l1_7 : List Int) : Option (Bool) := if a0_0 = a1_0 then (if a0_1.toList = a1_1.toList then (if a0_2.toList = a1_2.toList then (if a0_3.toList = a1_3.toList then (if a0_5 = a1_5 then (if a0_6 = a1_6 then (if (l0_4.length : Int) = (l1_4.length : Int) then (cofferref22_SameStep.j0 k ((l0_7.length : Int) != (l1_7.length : Int)) a0_0 a0_1 a0_2 a0_3 l0_4 a0_5 a0_6 l0_7 a1_0 a1_1 a1_2 a1_3 l1_4 a1_5 a1_6 l1_7) else (cofferref22_SameStep.j0 k true a0_0 a0_1 a0_2 a0_3 l0_4 a0_5 a0_6 l0_7 a1_0 a1_1 a1_2 a1_3 l1_4 a1_5 a1_6 l1_7)) else (cofferref22_SameStep.j0 k true a0_0 a0_1 a0_2 a0_3 l0_4 a0_5 a0_6 l0_7 a1_0 a1_1 a1_2 a1_3 l1_4 a1_5 a1_6 l1_7)) else (cofferref22_SameStep.j0 k true a0_0 a0_1 a0_2 a0_3 l0_4 a0_5 a0_6 l0_7 a1_0 a1_1 a1_2 a1_3 l1_4 a1_5 a1_6 l1_7)) else (cofferref22_SameStep.j0 k true a0_0 a0_1 a0_2 a0_3 l0_4 a0_5 a0_6 l0_7 a1_0 a1_1 a1_2 a1_3 l1_4 a1_5 a1_6 l1_7)) else (cofferref22_SameStep.j0 k true a0_0 a0_1 a0_2 a0_3 l0_4 a0_5 a0_6 l0_7 a1_0 a1_1 a1_2 a1_3 l1_4 a1_5 a1_6 l1_7)) else (cofferref22_SameStep.j0 k true a0_0 a0_1 a0_2 a0_3 l0_4 a0_5 a0_6 l0_7 a1_0 a1_1 a1_2 a1_3 l1_4 a1_5 a1_6 l1_7)) else (cofferref22_SameStep.j0 k true a0_0 a0_1 a0_2 a0_3 l0_4 a0_5 a0_6 l0_7 a1_0 a1_1 a1_2 a1_3 l1_4 a1_5 a1_6 l1_7)
set_option maxHeartbeats 8000000 in
set_option maxRecDepth 100000 in
theorem cofferref22_SameStep.calls (k : Nat) (a0_0 : Int) (a0_1 : ByteArray) (a0_2 : ByteArray) (a0_3 : ByteArray) (A0_4 : Option Addr) (c0_4 : Nat) (l0_4 : List (S38)) (a0_5 : Int) (a0_6 : Int) (A0_7 : Option Addr) (c0_7 : Nat) (l0_7 : List Int) (a1_0 : Int) (a1_1 : ByteArray) (a1_2 : ByteArray) (a1_3 : ByteArray) (A1_4 : Option Addr) (c1_4 : Nat) (l1_4 : List (S38)) (a1_5 : Int) (a1_6 : Int) (A1_7 : Option Addr) (c1_7 : Nat) (l1_7 : List Int) (r : Bool) (w : World) (hr0_4 : Kd.C k38 w A0_4 l0_4.length l0_4) (hc0_4 : l0_4.length ≤ c0_4) (hr0_7 : Kd.C (Kd.int .i64) w A0_7 l0_7.length l0_7) (hc0_7 : l0_7.length ≤ c0_7) (hr1_4 : Kd.C k38 w A1_4 l1_4.length l1_4) (hc1_4 : l1_4.length ≤ c1_4) (hr1_7 : Kd.C (Kd.int .i64) w A1_7 l1_7.length l1_7) (hc1_7 : l1_7.length ≤ c1_7) (h : cofferref22_SameStep.f k a0_0 a0_1 a0_2 a0_3 l0_4 a0_5 a0_6 l0_7 a1_0 a1_1 a1_2 a1_3 l1_4 a1_5 a1_6 l1_7 = some r) :
  Calls Tryd.prog 33 #[.agg #[.int .i64 a0_0, .string a0_1, .string a0_2, .string a0_3, .slice A0_4 l0_4.length c0_4, .int .i64 a0_5, .int .i64 a0_6, .slice A0_7 l0_7.length c0_7], .agg #[.int .i64 a1_0, .string a1_1, .string a1_2, .string a1_3, .slice A1_4 l1_4.length c1_4, .int .i64 a1_5, .int .i64 a1_6, .slice A1_7 l1_7.length c1_7]] w fun e w' => e = .returned (.bool r) ∧ Below w.heap.size w w' := by
 have hu55 := Tryd.underlying55
 have hu38 := Tryd.underlying38
 have HR0_4 := Aside0.mk hr0_4
 have HC0_4 := Aside0.mk hc0_4
 clear hr0_4 hc0_4
 have HR0_7 := Aside0.mk hr0_7
 have HC0_7 := Aside0.mk hc0_7
 clear hr0_7 hc0_7
 have HR1_4 := Aside0.mk hr1_4
 have HC1_4 := Aside0.mk hc1_4
 clear hr1_4 hc1_4
 have HR1_7 := Aside0.mk hr1_7
 have HC1_7 := Aside0.mk hc1_7
 clear hr1_7 hc1_7
 have HB := Aside0.mk (Below.refl w.heap.size w)
 have H : (if a0_0 = a1_0 then (if a0_1.toList = a1_1.toList then (if a0_2.toList = a1_2.toList then (if a0_3.toList = a1_3.toList then (if a0_5 = a1_5 then (if a0_6 = a1_6 then (if (l0_4.length : Int) = (l1_4.length : Int) then (cofferref22_SameStep.j0 k ((l0_7.length : Int) != (l1_7.length : Int)) a0_0 a0_1 a0_2 a0_3 l0_4 a0_5 a0_6 l0_7 a1_0 a1_1 a1_2 a1_3 l1_4 a1_5 a1_6 l1_7) else (cofferref22_SameStep.j0 k true a0_0 a0_1 a0_2 a0_3 l0_4 a0_5 a0_6 l0_7 a1_0 a1_1 a1_2 a1_3 l1_4 a1_5 a1_6 l1_7)) else (cofferref22_SameStep.j0 k true a0_0 a0_1 a0_2 a0_3 l0_4 a0_5 a0_6 l0_7 a1_0 a1_1 a1_2 a1_3 l1_4 a1_5 a1_6 l1_7)) else (cofferref22_SameStep.j0 k true a0_0 a0_1 a0_2 a0_3 l0_4 a0_5 a0_6 l0_7 a1_0 a1_1 a1_2 a1_3 l1_4 a1_5 a1_6 l1_7)) else (cofferref22_SameStep.j0 k true a0_0 a0_1 a0_2 a0_3 l0_4 a0_5 a0_6 l0_7 a1_0 a1_1 a1_2 a1_3 l1_4 a1_5 a1_6 l1_7)) else (cofferref22_SameStep.j0 k true a0_0 a0_1 a0_2 a0_3 l0_4 a0_5 a0_6 l0_7 a1_0 a1_1 a1_2 a1_3 l1_4 a1_5 a1_6 l1_7)) else (cofferref22_SameStep.j0 k true a0_0 a0_1 a0_2 a0_3 l0_4 a0_5 a0_6 l0_7 a1_0 a1_1 a1_2 a1_3 l1_4 a1_5 a1_6 l1_7)) else (cofferref22_SameStep.j0 k true a0_0 a0_1 a0_2 a0_3 l0_4 a0_5 a0_6 l0_7 a1_0 a1_1 a1_2 a1_3 l1_4 a1_5 a1_6 l1_7)) = some r := h
 clear h
 have HC3 := Aside0.mk H
 clear H
 go_enter Tryd.func33, Tryd.ntmps33
 go_upto_region 1 with (first | ((with_reducible refine zbm (N := 2) rfl ?_); (try (refine gate_guard (by rfl) ?_; dsimp only)); refine zbn ?hg (N := 2) ?hd (cs := #[.int .i64 a0_0, .string a0_1, .string a0_2, .string a0_3, .slice A0_4 l0_4.length c0_4, .int .i64 a0_5, .int .i64 a0_6, .slice A0_7 l0_7.length c0_7]) (t := 55) ?hr ?_; (case hd => rfl); (case hg => rfl); (case hr => first | (go_simp; done) | (go_simp; rfl)); intro gb414 hg w4 hbox hb; have n0_ := Aside0.mk (zap (by repeat with_reducible first | exact HB.out | apply zae | apply zac | apply zad) hb); have n1_ := Aside0.mk (hbox); have n2_ := Aside0.mk ((by rw [hg]; exact (zal (by repeat with_reducible first | exact HB.out | apply zae | apply zac | apply zad)) : w.heap.size ≤ gb414)); have n3_ := Aside0.mk ((by rw [hg]; exact (zal (by repeat with_reducible first | exact HB.out | apply zae | apply zac | apply zad)) : w.heap.size ≤ gb414)); clear HB; have HB := n0_; have BK414 := n1_; have GW414 := n2_; have GE414 := n3_; clear n0_ n1_ n2_ n3_; clear hb hbox hg) | ((with_reducible refine zbm (N := 3) rfl ?_); (try (refine gate_guard (by rfl) ?_; dsimp only)); refine zbn ?hg (N := 3) ?hd (cs := #[.int .i64 a1_0, .string a1_1, .string a1_2, .string a1_3, .slice A1_4 l1_4.length c1_4, .int .i64 a1_5, .int .i64 a1_6, .slice A1_7 l1_7.length c1_7]) (t := 55) ?hr ?_; (case hd => rfl); (case hg => rfl); (case hr => first | (go_simp; done) | (go_simp; rfl)); intro gb415 hg w5 hbox hb; have n0_ := Aside0.mk (zaz (g := gb414) (o := .cells #[.int .i64 a0_0, .string a0_1, .string a0_2, .string a0_3, .slice A0_4 l0_4.length c0_4, .int .i64 a0_5, .int .i64 a0_6, .slice A0_7 l0_7.length c0_7] 55 (0, 0)) (by (with_reducible repeat (first | refine zai ?_ _ | refine zaj ?_ | refine zag ?_ _)); exact BK414.out) hb); have n1_ := Aside0.mk (zap (by repeat with_reducible first | exact HB.out | apply zae | apply zac | apply zad | refine zah ?_ GE414.out) hb); have n2_ := Aside0.mk (hbox); have n3_ := Aside0.mk ((by rw [hg]; exact (zal (by repeat with_reducible first | exact HB.out | apply zae | apply zac | apply zad | refine zah ?_ GE414.out)) : w.heap.size ≤ gb415)); have n4_ := Aside0.mk ((by rw [hg]; exact (zal (by repeat with_reducible first | exact HB.out | apply zae | apply zac | apply zad | refine zah ?_ GE414.out)) : w.heap.size ≤ gb415)); have n5_ := Aside0.mk ((by rw [hg]; exact Nat.ne_of_lt (blk_lt (g := gb414) (o := .cells #[.int .i64 a0_0, .string a0_1, .string a0_2, .string a0_3, .slice A0_4 l0_4.length c0_4, .int .i64 a0_5, .int .i64 a0_6, .slice A0_7 l0_7.length c0_7] 55 (0, 0)) (by (with_reducible repeat (first | refine zai ?_ _ | refine zaj ?_ | refine zag ?_ _)); exact BK414.out)) : gb414 ≠ gb415)); have n6_ := Aside0.mk ((by rw [hg]; exact Nat.ne_of_gt (blk_lt (g := gb414) (o := .cells #[.int .i64 a0_0, .string a0_1, .string a0_2, .string a0_3, .slice A0_4 l0_4.length c0_4, .int .i64 a0_5, .int .i64 a0_6, .slice A0_7 l0_7.length c0_7] 55 (0, 0)) (by (with_reducible repeat (first | refine zai ?_ _ | refine zaj ?_ | refine zag ?_ _)); exact BK414.out)) : gb415 ≠ gb414)); clear BK414; clear HB; have BK414 := n0_; have HB := n1_; have BK415 := n2_; have GW415 := n3_; have GE415 := n4_; have NB414_415 := n5_; have NB415_414 := n6_; clear n0_ n1_ n2_ n3_ n4_ n5_ n6_; clear hb hbox hg))
 repeat (go_quiet (first | ((with_reducible refine zbm (N := 2) rfl ?_); (try (refine gate_guard (by rfl) ?_; dsimp only)); refine zbn ?hg (N := 2) ?hd (cs := #[.int .i64 a0_0, .string a0_1, .string a0_2, .string a0_3, .slice A0_4 l0_4.length c0_4, .int .i64 a0_5, .int .i64 a0_6, .slice A0_7 l0_7.length c0_7]) (t := 55) ?hr ?_; (case hd => rfl); (case hg => rfl); (case hr => first | (go_simp; done) | (go_simp; rfl)); intro gb414 hg w4 hbox hb; have n0_ := Aside0.mk (zap (by repeat with_reducible first | exact HB.out | apply zae | apply zac | apply zad) hb); have n1_ := Aside0.mk (hbox); have n2_ := Aside0.mk ((by rw [hg]; exact (zal (by repeat with_reducible first | exact HB.out | apply zae | apply zac | apply zad)) : w.heap.size ≤ gb414)); have n3_ := Aside0.mk ((by rw [hg]; exact (zal (by repeat with_reducible first | exact HB.out | apply zae | apply zac | apply zad)) : w.heap.size ≤ gb414)); clear HB; have HB := n0_; have BK414 := n1_; have GW414 := n2_; have GE414 := n3_; clear n0_ n1_ n2_ n3_; clear hb hbox hg) | ((with_reducible refine zbm (N := 3) rfl ?_); (try (refine gate_guard (by rfl) ?_; dsimp only)); refine zbn ?hg (N := 3) ?hd (cs := #[.int .i64 a1_0, .string a1_1, .string a1_2, .string a1_3, .slice A1_4 l1_4.length c1_4, .int .i64 a1_5, .int .i64 a1_6, .slice A1_7 l1_7.length c1_7]) (t := 55) ?hr ?_; (case hd => rfl); (case hg => rfl); (case hr => first | (go_simp; done) | (go_simp; rfl)); intro gb415 hg w5 hbox hb; have n0_ := Aside0.mk (zaz (g := gb414) (o := .cells #[.int .i64 a0_0, .string a0_1, .string a0_2, .string a0_3, .slice A0_4 l0_4.length c0_4, .int .i64 a0_5, .int .i64 a0_6, .slice A0_7 l0_7.length c0_7] 55 (0, 0)) (by (with_reducible repeat (first | refine zai ?_ _ | refine zaj ?_ | refine zag ?_ _)); exact BK414.out) hb); have n1_ := Aside0.mk (zap (by repeat with_reducible first | exact HB.out | apply zae | apply zac | apply zad | refine zah ?_ GE414.out) hb); have n2_ := Aside0.mk (hbox); have n3_ := Aside0.mk ((by rw [hg]; exact (zal (by repeat with_reducible first | exact HB.out | apply zae | apply zac | apply zad | refine zah ?_ GE414.out)) : w.heap.size ≤ gb415)); have n4_ := Aside0.mk ((by rw [hg]; exact (zal (by repeat with_reducible first | exact HB.out | apply zae | apply zac | apply zad | refine zah ?_ GE414.out)) : w.heap.size ≤ gb415)); have n5_ := Aside0.mk ((by rw [hg]; exact Nat.ne_of_lt (blk_lt (g := gb414) (o := .cells #[.int .i64 a0_0, .string a0_1, .string a0_2, .string a0_3, .slice A0_4 l0_4.length c0_4, .int .i64 a0_5, .int .i64 a0_6, .slice A0_7 l0_7.length c0_7] 55 (0, 0)) (by (with_reducible repeat (first | refine zai ?_ _ | refine zaj ?_ | refine zag ?_ _)); exact BK414.out)) : gb414 ≠ gb415)); have n6_ := Aside0.mk ((by rw [hg]; exact Nat.ne_of_gt (blk_lt (g := gb414) (o := .cells #[.int .i64 a0_0, .string a0_1, .string a0_2, .string a0_3, .slice A0_4 l0_4.length c0_4, .int .i64 a0_5, .int .i64 a0_6, .slice A0_7 l0_7.length c0_7] 55 (0, 0)) (by (with_reducible repeat (first | refine zai ?_ _ | refine zaj ?_ | refine zag ?_ _)); exact BK414.out)) : gb415 ≠ gb414)); clear BK414; clear HB; have BK414 := n0_; have HB := n1_; have BK415 := n2_; have GW415 := n3_; have GE415 := n4_; have NB414_415 := n5_; have NB415_414 := n6_; clear n0_ n1_ n2_ n3_ n4_ n5_ n6_; clear hb hbox hg)); go_upto_region 1 with (first | ((with_reducible refine zbm (N := 2) rfl ?_); (try (refine gate_guard (by rfl) ?_; dsimp only)); refine zbn ?hg (N := 2) ?hd (cs := #[.int .i64 a0_0, .string a0_1, .string a0_2, .string a0_3, .slice A0_4 l0_4.length c0_4, .int .i64 a0_5, .int .i64 a0_6, .slice A0_7 l0_7.length c0_7]) (t := 55) ?hr ?_; (case hd => rfl); (case hg => rfl); (case hr => first | (go_simp; done) | (go_simp; rfl)); intro gb414 hg w4 hbox hb; have n0_ := Aside0.mk (zap (by repeat with_reducible first | exact HB.out | apply zae | apply zac | apply zad) hb); have n1_ := Aside0.mk (hbox); have n2_ := Aside0.mk ((by rw [hg]; exact (zal (by repeat with_reducible first | exact HB.out | apply zae | apply zac | apply zad)) : w.heap.size ≤ gb414)); have n3_ := Aside0.mk ((by rw [hg]; exact (zal (by repeat with_reducible first | exact HB.out | apply zae | apply zac | apply zad)) : w.heap.size ≤ gb414)); clear HB; have HB := n0_; have BK414 := n1_; have GW414 := n2_; have GE414 := n3_; clear n0_ n1_ n2_ n3_; clear hb hbox hg) | ((with_reducible refine zbm (N := 3) rfl ?_); (try (refine gate_guard (by rfl) ?_; dsimp only)); refine zbn ?hg (N := 3) ?hd (cs := #[.int .i64 a1_0, .string a1_1, .string a1_2, .string a1_3, .slice A1_4 l1_4.length c1_4, .int .i64 a1_5, .int .i64 a1_6, .slice A1_7 l1_7.length c1_7]) (t := 55) ?hr ?_; (case hd => rfl); (case hg => rfl); (case hr => first | (go_simp; done) | (go_simp; rfl)); intro gb415 hg w5 hbox hb; have n0_ := Aside0.mk (zaz (g := gb414) (o := .cells #[.int .i64 a0_0, .string a0_1, .string a0_2, .string a0_3, .slice A0_4 l0_4.length c0_4, .int .i64 a0_5, .int .i64 a0_6, .slice A0_7 l0_7.length c0_7] 55 (0, 0)) (by (with_reducible repeat (first | refine zai ?_ _ | refine zaj ?_ | refine zag ?_ _)); exact BK414.out) hb); have n1_ := Aside0.mk (zap (by repeat with_reducible first | exact HB.out | apply zae | apply zac | apply zad | refine zah ?_ GE414.out) hb); have n2_ := Aside0.mk (hbox); have n3_ := Aside0.mk ((by rw [hg]; exact (zal (by repeat with_reducible first | exact HB.out | apply zae | apply zac | apply zad | refine zah ?_ GE414.out)) : w.heap.size ≤ gb415)); have n4_ := Aside0.mk ((by rw [hg]; exact (zal (by repeat with_reducible first | exact HB.out | apply zae | apply zac | apply zad | refine zah ?_ GE414.out)) : w.heap.size ≤ gb415)); have n5_ := Aside0.mk ((by rw [hg]; exact Nat.ne_of_lt (blk_lt (g := gb414) (o := .cells #[.int .i64 a0_0, .string a0_1, .string a0_2, .string a0_3, .slice A0_4 l0_4.length c0_4, .int .i64 a0_5, .int .i64 a0_6, .slice A0_7 l0_7.length c0_7] 55 (0, 0)) (by (with_reducible repeat (first | refine zai ?_ _ | refine zaj ?_ | refine zag ?_ _)); exact BK414.out)) : gb414 ≠ gb415)); have n6_ := Aside0.mk ((by rw [hg]; exact Nat.ne_of_gt (blk_lt (g := gb414) (o := .cells #[.int .i64 a0_0, .string a0_1, .string a0_2, .string a0_3, .slice A0_4 l0_4.length c0_4, .int .i64 a0_5, .int .i64 a0_6, .slice A0_7 l0_7.length c0_7] 55 (0, 0)) (by (with_reducible repeat (first | refine zai ?_ _ | refine zaj ?_ | refine zag ?_ _)); exact BK414.out)) : gb415 ≠ gb414)); clear BK414; clear HB; have BK414 := n0_; have HB := n1_; have BK415 := n2_; have GW415 := n3_; have GE415 := n4_; have NB414_415 := n5_; have NB415_414 := n6_; clear n0_ n1_ n2_ n3_ n4_ n5_ n6_; clear hb hbox hg)))
 (try simp only [Act.put, List.setIfInBounds_toArray, List.set_cons_zero, List.set_cons_succ])
 go_cut [64] (fun v64 wc => ∃ (kq : Nat) (x64_2 : Bool), v64 = .bool x64_2 ∧ Aside0 (cofferref22_SameStep.j0 kq x64_2 a0_0 a0_1 a0_2 a0_3 l0_4 a0_5 a0_6 l0_7 a1_0 a1_1 a1_2 a1_3 l1_4 a1_5 a1_6 l1_7 = some r) ∧ Aside0 (kq ≤ k) ∧ Aside0 (wc.heap[gb414]? = some (.cells #[.int .i64 a0_0, .string a0_1, .string a0_2, .string a0_3, (.slice A0_4 l0_4.length c0_4), .int .i64 a0_5, .int .i64 a0_6, (.slice A0_7 l0_7.length c0_7)] 55 (0, 0))) ∧ Aside0 (wc.heap[gb415]? = some (.cells #[.int .i64 a1_0, .string a1_1, .string a1_2, .string a1_3, (.slice A1_4 l1_4.length c1_4), .int .i64 a1_5, .int .i64 a1_6, (.slice A1_7 l1_7.length c1_7)] 55 (0, 0))) ∧ Aside0 (Below w.heap.size w wc))
 case first =>
  have H := HC3.out
  clear HC3
  by_cases c6 : a0_0 = a1_0
  rotate_left
  ·
   rw [if_neg c6] at H
   have c6b0 : (a0_0 == a1_0) = false := beq_eq_false_iff_ne.mpr c6
   have c6b1 : (a0_0 != a1_0) = true := bne_iff_ne.mpr c6
   (first | rw [c6b0] | (simp only [i64_w, i32_w]; rw [c6b0]) | rw [c6b2] | skip)
   have H' := Aside0.mk H
   clear H
   have hnb34 := NB414_415.out
   have hnc34 := NB415_414.out
   have hcz35_0 : w5.cell? ⟨gb414, 0, none⟩ = some (.int .i64 a0_0) := (zaa BK414.out 0).trans rfl
   have hcz35_1 : w5.cell? ⟨gb414, 1, none⟩ = some (.string a0_1) := (zaa BK414.out 1).trans rfl
   have hcz35_2 : w5.cell? ⟨gb414, 2, none⟩ = some (.string a0_2) := (zaa BK414.out 2).trans rfl
   have hcz35_3 : w5.cell? ⟨gb414, 3, none⟩ = some (.string a0_3) := (zaa BK414.out 3).trans rfl
   have hcz35_4 : w5.cell? ⟨gb414, 4, none⟩ = some (.slice A0_4 l0_4.length c0_4) := (zaa BK414.out 4).trans rfl
   have hcz35_5 : w5.cell? ⟨gb414, 5, none⟩ = some (.int .i64 a0_5) := (zaa BK414.out 5).trans rfl
   have hcz35_6 : w5.cell? ⟨gb414, 6, none⟩ = some (.int .i64 a0_6) := (zaa BK414.out 6).trans rfl
   have hcz35_7 : w5.cell? ⟨gb414, 7, none⟩ = some (.slice A0_7 l0_7.length c0_7) := (zaa BK414.out 7).trans rfl
   have hfz35_0 := zab BK414.out 0
   have hfz35_1 := zab BK414.out 1
   have hfz35_2 := zab BK414.out 2
   have hfz35_3 := zab BK414.out 3
   have hfz35_4 := zab BK414.out 4
   have hfz35_5 := zab BK414.out 5
   have hfz35_6 := zab BK414.out 6
   have hfz35_7 := zab BK414.out 7
   have hcz36_0 : w5.cell? ⟨gb415, 0, none⟩ = some (.int .i64 a1_0) := (zaa BK415.out 0).trans rfl
   have hcz36_1 : w5.cell? ⟨gb415, 1, none⟩ = some (.string a1_1) := (zaa BK415.out 1).trans rfl
   have hcz36_2 : w5.cell? ⟨gb415, 2, none⟩ = some (.string a1_2) := (zaa BK415.out 2).trans rfl
   have hcz36_3 : w5.cell? ⟨gb415, 3, none⟩ = some (.string a1_3) := (zaa BK415.out 3).trans rfl
   have hcz36_4 : w5.cell? ⟨gb415, 4, none⟩ = some (.slice A1_4 l1_4.length c1_4) := (zaa BK415.out 4).trans rfl
   have hcz36_5 : w5.cell? ⟨gb415, 5, none⟩ = some (.int .i64 a1_5) := (zaa BK415.out 5).trans rfl
   have hcz36_6 : w5.cell? ⟨gb415, 6, none⟩ = some (.int .i64 a1_6) := (zaa BK415.out 6).trans rfl
   have hcz36_7 : w5.cell? ⟨gb415, 7, none⟩ = some (.slice A1_7 l1_7.length c1_7) := (zaa BK415.out 7).trans rfl
   have hfz36_0 := zab BK415.out 0
   have hfz36_1 := zab BK415.out 1
   have hfz36_2 := zab BK415.out 2
   have hfz36_3 := zab BK415.out 3
   have hfz36_4 := zab BK415.out 4
   have hfz36_5 := zab BK415.out 5
   have hfz36_6 := zab BK415.out 6
   have hfz36_7 := zab BK415.out 7
   go_wp2
   repeat (go_quiet (fail); try go_wp2)
   go_meet
   case rel => exact ⟨_, (true), (by first | rfl | (simp; done) | (simp [*]; done)), H', ⟨by first | omega | exact Nat.le_refl _⟩, ⟨by (with_reducible repeat (first | refine zai ?_ _ | refine zaj ?_ | refine zag ?_ _)); exact BK414.out⟩, ⟨by (with_reducible repeat (first | refine zai ?_ _ | refine zaj ?_ | refine zag ?_ _)); exact BK415.out⟩, ⟨by repeat with_reducible first | exact HB.out | apply zae | apply zac | apply zad | refine zah ?_ GE414.out | refine zah ?_ GE415.out⟩⟩
  rw [if_pos c6] at H
  have c6b0 : (a0_0 == a1_0) = true := beq_iff_eq.mpr c6
  have c6b1 : (a0_0 != a1_0) = false := bne_eq_false_iff_eq.mpr c6
  clear c6
  (first | rw [c6b0] | (simp only [i64_w, i32_w]; rw [c6b0]) | rw [c6b2] | skip)
  by_cases c7 : a0_1.toList = a1_1.toList
  rotate_left
  ·
   rw [if_neg c7] at H
   have c7b0 : (a0_1.toList == a1_1.toList) = false := beq_eq_false_iff_ne.mpr c7
   have c7b1 : (a0_1.toList != a1_1.toList) = true := bne_iff_ne.mpr c7
   have H' := Aside0.mk H
   clear H
   have hnb31 := NB414_415.out
   have hnc31 := NB415_414.out
   have hcz32_0 : w5.cell? ⟨gb414, 0, none⟩ = some (.int .i64 a0_0) := (zaa BK414.out 0).trans rfl
   have hcz32_1 : w5.cell? ⟨gb414, 1, none⟩ = some (.string a0_1) := (zaa BK414.out 1).trans rfl
   have hcz32_2 : w5.cell? ⟨gb414, 2, none⟩ = some (.string a0_2) := (zaa BK414.out 2).trans rfl
   have hcz32_3 : w5.cell? ⟨gb414, 3, none⟩ = some (.string a0_3) := (zaa BK414.out 3).trans rfl
   have hcz32_4 : w5.cell? ⟨gb414, 4, none⟩ = some (.slice A0_4 l0_4.length c0_4) := (zaa BK414.out 4).trans rfl
   have hcz32_5 : w5.cell? ⟨gb414, 5, none⟩ = some (.int .i64 a0_5) := (zaa BK414.out 5).trans rfl
   have hcz32_6 : w5.cell? ⟨gb414, 6, none⟩ = some (.int .i64 a0_6) := (zaa BK414.out 6).trans rfl
   have hcz32_7 : w5.cell? ⟨gb414, 7, none⟩ = some (.slice A0_7 l0_7.length c0_7) := (zaa BK414.out 7).trans rfl
   have hfz32_0 := zab BK414.out 0
   have hfz32_1 := zab BK414.out 1
   have hfz32_2 := zab BK414.out 2
   have hfz32_3 := zab BK414.out 3
   have hfz32_4 := zab BK414.out 4
   have hfz32_5 := zab BK414.out 5
   have hfz32_6 := zab BK414.out 6
   have hfz32_7 := zab BK414.out 7
   have hcz33_0 : w5.cell? ⟨gb415, 0, none⟩ = some (.int .i64 a1_0) := (zaa BK415.out 0).trans rfl
   have hcz33_1 : w5.cell? ⟨gb415, 1, none⟩ = some (.string a1_1) := (zaa BK415.out 1).trans rfl
   have hcz33_2 : w5.cell? ⟨gb415, 2, none⟩ = some (.string a1_2) := (zaa BK415.out 2).trans rfl
   have hcz33_3 : w5.cell? ⟨gb415, 3, none⟩ = some (.string a1_3) := (zaa BK415.out 3).trans rfl
   have hcz33_4 : w5.cell? ⟨gb415, 4, none⟩ = some (.slice A1_4 l1_4.length c1_4) := (zaa BK415.out 4).trans rfl
   have hcz33_5 : w5.cell? ⟨gb415, 5, none⟩ = some (.int .i64 a1_5) := (zaa BK415.out 5).trans rfl
   have hcz33_6 : w5.cell? ⟨gb415, 6, none⟩ = some (.int .i64 a1_6) := (zaa BK415.out 6).trans rfl
   have hcz33_7 : w5.cell? ⟨gb415, 7, none⟩ = some (.slice A1_7 l1_7.length c1_7) := (zaa BK415.out 7).trans rfl
   have hfz33_0 := zab BK415.out 0
   have hfz33_1 := zab BK415.out 1
   have hfz33_2 := zab BK415.out 2
   have hfz33_3 := zab BK415.out 3
   have hfz33_4 := zab BK415.out 4
   have hfz33_5 := zab BK415.out 5
   have hfz33_6 := zab BK415.out 6
   have hfz33_7 := zab BK415.out 7
   go_wp2
   repeat (go_quiet (fail); try go_wp2)
   go_meet
   case rel => exact ⟨_, (true), (by first | rfl | (simp; done) | (simp [*]; done)), H', ⟨by first | omega | exact Nat.le_refl _⟩, ⟨by (with_reducible repeat (first | refine zai ?_ _ | refine zaj ?_ | refine zag ?_ _)); exact BK414.out⟩, ⟨by (with_reducible repeat (first | refine zai ?_ _ | refine zaj ?_ | refine zag ?_ _)); exact BK415.out⟩, ⟨by repeat with_reducible first | exact HB.out | apply zae | apply zac | apply zad | refine zah ?_ GE414.out | refine zah ?_ GE415.out⟩⟩
  rw [if_pos c7] at H
  have c7b0 : (a0_1.toList == a1_1.toList) = true := beq_iff_eq.mpr c7
  have c7b1 : (a0_1.toList != a1_1.toList) = false := bne_eq_false_iff_eq.mpr c7
  clear c7
  by_cases c8 : a0_2.toList = a1_2.toList
  rotate_left
  ·
   rw [if_neg c8] at H
   have c8b0 : (a0_2.toList == a1_2.toList) = false := beq_eq_false_iff_ne.mpr c8
   have c8b1 : (a0_2.toList != a1_2.toList) = true := bne_iff_ne.mpr c8
   have H' := Aside0.mk H
   clear H
   have hnb28 := NB414_415.out
   have hnc28 := NB415_414.out
   have hcz29_0 : w5.cell? ⟨gb414, 0, none⟩ = some (.int .i64 a0_0) := (zaa BK414.out 0).trans rfl
   have hcz29_1 : w5.cell? ⟨gb414, 1, none⟩ = some (.string a0_1) := (zaa BK414.out 1).trans rfl
   have hcz29_2 : w5.cell? ⟨gb414, 2, none⟩ = some (.string a0_2) := (zaa BK414.out 2).trans rfl
   have hcz29_3 : w5.cell? ⟨gb414, 3, none⟩ = some (.string a0_3) := (zaa BK414.out 3).trans rfl
   have hcz29_4 : w5.cell? ⟨gb414, 4, none⟩ = some (.slice A0_4 l0_4.length c0_4) := (zaa BK414.out 4).trans rfl
   have hcz29_5 : w5.cell? ⟨gb414, 5, none⟩ = some (.int .i64 a0_5) := (zaa BK414.out 5).trans rfl
   have hcz29_6 : w5.cell? ⟨gb414, 6, none⟩ = some (.int .i64 a0_6) := (zaa BK414.out 6).trans rfl
   have hcz29_7 : w5.cell? ⟨gb414, 7, none⟩ = some (.slice A0_7 l0_7.length c0_7) := (zaa BK414.out 7).trans rfl
   have hfz29_0 := zab BK414.out 0
   have hfz29_1 := zab BK414.out 1
   have hfz29_2 := zab BK414.out 2
   have hfz29_3 := zab BK414.out 3
   have hfz29_4 := zab BK414.out 4
   have hfz29_5 := zab BK414.out 5
   have hfz29_6 := zab BK414.out 6
   have hfz29_7 := zab BK414.out 7
   have hcz30_0 : w5.cell? ⟨gb415, 0, none⟩ = some (.int .i64 a1_0) := (zaa BK415.out 0).trans rfl
   have hcz30_1 : w5.cell? ⟨gb415, 1, none⟩ = some (.string a1_1) := (zaa BK415.out 1).trans rfl
   have hcz30_2 : w5.cell? ⟨gb415, 2, none⟩ = some (.string a1_2) := (zaa BK415.out 2).trans rfl
   have hcz30_3 : w5.cell? ⟨gb415, 3, none⟩ = some (.string a1_3) := (zaa BK415.out 3).trans rfl
   have hcz30_4 : w5.cell? ⟨gb415, 4, none⟩ = some (.slice A1_4 l1_4.length c1_4) := (zaa BK415.out 4).trans rfl
   have hcz30_5 : w5.cell? ⟨gb415, 5, none⟩ = some (.int .i64 a1_5) := (zaa BK415.out 5).trans rfl
   have hcz30_6 : w5.cell? ⟨gb415, 6, none⟩ = some (.int .i64 a1_6) := (zaa BK415.out 6).trans rfl
   have hcz30_7 : w5.cell? ⟨gb415, 7, none⟩ = some (.slice A1_7 l1_7.length c1_7) := (zaa BK415.out 7).trans rfl
   have hfz30_0 := zab BK415.out 0
   have hfz30_1 := zab BK415.out 1
   have hfz30_2 := zab BK415.out 2
   have hfz30_3 := zab BK415.out 3
   have hfz30_4 := zab BK415.out 4
   have hfz30_5 := zab BK415.out 5
   have hfz30_6 := zab BK415.out 6
   have hfz30_7 := zab BK415.out 7
   go_wp2
   repeat (go_quiet (fail); try go_wp2)
   go_meet
   case rel => exact ⟨_, (true), (by first | rfl | (simp; done) | (simp [*]; done)), H', ⟨by first | omega | exact Nat.le_refl _⟩, ⟨by (with_reducible repeat (first | refine zai ?_ _ | refine zaj ?_ | refine zag ?_ _)); exact BK414.out⟩, ⟨by (with_reducible repeat (first | refine zai ?_ _ | refine zaj ?_ | refine zag ?_ _)); exact BK415.out⟩, ⟨by repeat with_reducible first | exact HB.out | apply zae | apply zac | apply zad | refine zah ?_ GE414.out | refine zah ?_ GE415.out⟩⟩
  rw [if_pos c8] at H
  have c8b0 : (a0_2.toList == a1_2.toList) = true := beq_iff_eq.mpr c8
  have c8b1 : (a0_2.toList != a1_2.toList) = false := bne_eq_false_iff_eq.mpr c8
  clear c8
  by_cases c9 : a0_3.toList = a1_3.toList
  rotate_left
  ·
   rw [if_neg c9] at H
   have c9b0 : (a0_3.toList == a1_3.toList) = false := beq_eq_false_iff_ne.mpr c9
   have c9b1 : (a0_3.toList != a1_3.toList) = true := bne_iff_ne.mpr c9
   have H' := Aside0.mk H
   clear H
   have hnb25 := NB414_415.out
   have hnc25 := NB415_414.out
   have hcz26_0 : w5.cell? ⟨gb414, 0, none⟩ = some (.int .i64 a0_0) := (zaa BK414.out 0).trans rfl
   have hcz26_1 : w5.cell? ⟨gb414, 1, none⟩ = some (.string a0_1) := (zaa BK414.out 1).trans rfl
   have hcz26_2 : w5.cell? ⟨gb414, 2, none⟩ = some (.string a0_2) := (zaa BK414.out 2).trans rfl
   have hcz26_3 : w5.cell? ⟨gb414, 3, none⟩ = some (.string a0_3) := (zaa BK414.out 3).trans rfl
   have hcz26_4 : w5.cell? ⟨gb414, 4, none⟩ = some (.slice A0_4 l0_4.length c0_4) := (zaa BK414.out 4).trans rfl
   have hcz26_5 : w5.cell? ⟨gb414, 5, none⟩ = some (.int .i64 a0_5) := (zaa BK414.out 5).trans rfl
   have hcz26_6 : w5.cell? ⟨gb414, 6, none⟩ = some (.int .i64 a0_6) := (zaa BK414.out 6).trans rfl
   have hcz26_7 : w5.cell? ⟨gb414, 7, none⟩ = some (.slice A0_7 l0_7.length c0_7) := (zaa BK414.out 7).trans rfl
   have hfz26_0 := zab BK414.out 0
   have hfz26_1 := zab BK414.out 1
   have hfz26_2 := zab BK414.out 2
   have hfz26_3 := zab BK414.out 3
   have hfz26_4 := zab BK414.out 4
   have hfz26_5 := zab BK414.out 5
   have hfz26_6 := zab BK414.out 6
   have hfz26_7 := zab BK414.out 7
   have hcz27_0 : w5.cell? ⟨gb415, 0, none⟩ = some (.int .i64 a1_0) := (zaa BK415.out 0).trans rfl
   have hcz27_1 : w5.cell? ⟨gb415, 1, none⟩ = some (.string a1_1) := (zaa BK415.out 1).trans rfl
   have hcz27_2 : w5.cell? ⟨gb415, 2, none⟩ = some (.string a1_2) := (zaa BK415.out 2).trans rfl
   have hcz27_3 : w5.cell? ⟨gb415, 3, none⟩ = some (.string a1_3) := (zaa BK415.out 3).trans rfl
   have hcz27_4 : w5.cell? ⟨gb415, 4, none⟩ = some (.slice A1_4 l1_4.length c1_4) := (zaa BK415.out 4).trans rfl
   have hcz27_5 : w5.cell? ⟨gb415, 5, none⟩ = some (.int .i64 a1_5) := (zaa BK415.out 5).trans rfl
   have hcz27_6 : w5.cell? ⟨gb415, 6, none⟩ = some (.int .i64 a1_6) := (zaa BK415.out 6).trans rfl
   have hcz27_7 : w5.cell? ⟨gb415, 7, none⟩ = some (.slice A1_7 l1_7.length c1_7) := (zaa BK415.out 7).trans rfl
   have hfz27_0 := zab BK415.out 0
   have hfz27_1 := zab BK415.out 1
   have hfz27_2 := zab BK415.out 2
   have hfz27_3 := zab BK415.out 3
   have hfz27_4 := zab BK415.out 4
   have hfz27_5 := zab BK415.out 5
   have hfz27_6 := zab BK415.out 6
   have hfz27_7 := zab BK415.out 7
   go_wp2
   repeat (go_quiet (fail); try go_wp2)
   go_meet
   case rel => exact ⟨_, (true), (by first | rfl | (simp; done) | (simp [*]; done)), H', ⟨by first | omega | exact Nat.le_refl _⟩, ⟨by (with_reducible repeat (first | refine zai ?_ _ | refine zaj ?_ | refine zag ?_ _)); exact BK414.out⟩, ⟨by (with_reducible repeat (first | refine zai ?_ _ | refine zaj ?_ | refine zag ?_ _)); exact BK415.out⟩, ⟨by repeat with_reducible first | exact HB.out | apply zae | apply zac | apply zad | refine zah ?_ GE414.out | refine zah ?_ GE415.out⟩⟩
  rw [if_pos c9] at H
  have c9b0 : (a0_3.toList == a1_3.toList) = true := beq_iff_eq.mpr c9
  have c9b1 : (a0_3.toList != a1_3.toList) = false := bne_eq_false_iff_eq.mpr c9
  clear c9
  by_cases c10 : a0_5 = a1_5
  rotate_left
  ·
   rw [if_neg c10] at H
   have c10b0 : (a0_5 == a1_5) = false := beq_eq_false_iff_ne.mpr c10
   have c10b1 : (a0_5 != a1_5) = true := bne_iff_ne.mpr c10
   have H' := Aside0.mk H
   clear H
   have hnb22 := NB414_415.out
   have hnc22 := NB415_414.out
   have hcz23_0 : w5.cell? ⟨gb414, 0, none⟩ = some (.int .i64 a0_0) := (zaa BK414.out 0).trans rfl
   have hcz23_1 : w5.cell? ⟨gb414, 1, none⟩ = some (.string a0_1) := (zaa BK414.out 1).trans rfl
   have hcz23_2 : w5.cell? ⟨gb414, 2, none⟩ = some (.string a0_2) := (zaa BK414.out 2).trans rfl
   have hcz23_3 : w5.cell? ⟨gb414, 3, none⟩ = some (.string a0_3) := (zaa BK414.out 3).trans rfl
   have hcz23_4 : w5.cell? ⟨gb414, 4, none⟩ = some (.slice A0_4 l0_4.length c0_4) := (zaa BK414.out 4).trans rfl
   have hcz23_5 : w5.cell? ⟨gb414, 5, none⟩ = some (.int .i64 a0_5) := (zaa BK414.out 5).trans rfl
   have hcz23_6 : w5.cell? ⟨gb414, 6, none⟩ = some (.int .i64 a0_6) := (zaa BK414.out 6).trans rfl
   have hcz23_7 : w5.cell? ⟨gb414, 7, none⟩ = some (.slice A0_7 l0_7.length c0_7) := (zaa BK414.out 7).trans rfl
   have hfz23_0 := zab BK414.out 0
   have hfz23_1 := zab BK414.out 1
   have hfz23_2 := zab BK414.out 2
   have hfz23_3 := zab BK414.out 3
   have hfz23_4 := zab BK414.out 4
   have hfz23_5 := zab BK414.out 5
   have hfz23_6 := zab BK414.out 6
   have hfz23_7 := zab BK414.out 7
   have hcz24_0 : w5.cell? ⟨gb415, 0, none⟩ = some (.int .i64 a1_0) := (zaa BK415.out 0).trans rfl
   have hcz24_1 : w5.cell? ⟨gb415, 1, none⟩ = some (.string a1_1) := (zaa BK415.out 1).trans rfl
   have hcz24_2 : w5.cell? ⟨gb415, 2, none⟩ = some (.string a1_2) := (zaa BK415.out 2).trans rfl
   have hcz24_3 : w5.cell? ⟨gb415, 3, none⟩ = some (.string a1_3) := (zaa BK415.out 3).trans rfl
   have hcz24_4 : w5.cell? ⟨gb415, 4, none⟩ = some (.slice A1_4 l1_4.length c1_4) := (zaa BK415.out 4).trans rfl
   have hcz24_5 : w5.cell? ⟨gb415, 5, none⟩ = some (.int .i64 a1_5) := (zaa BK415.out 5).trans rfl
   have hcz24_6 : w5.cell? ⟨gb415, 6, none⟩ = some (.int .i64 a1_6) := (zaa BK415.out 6).trans rfl
   have hcz24_7 : w5.cell? ⟨gb415, 7, none⟩ = some (.slice A1_7 l1_7.length c1_7) := (zaa BK415.out 7).trans rfl
   have hfz24_0 := zab BK415.out 0
   have hfz24_1 := zab BK415.out 1
   have hfz24_2 := zab BK415.out 2
   have hfz24_3 := zab BK415.out 3
   have hfz24_4 := zab BK415.out 4
   have hfz24_5 := zab BK415.out 5
   have hfz24_6 := zab BK415.out 6
   have hfz24_7 := zab BK415.out 7
   go_wp2
   repeat (go_quiet (fail); try go_wp2)
   go_meet
   case rel => exact ⟨_, (true), (by first | rfl | (simp; done) | (simp [*]; done)), H', ⟨by first | omega | exact Nat.le_refl _⟩, ⟨by (with_reducible repeat (first | refine zai ?_ _ | refine zaj ?_ | refine zag ?_ _)); exact BK414.out⟩, ⟨by (with_reducible repeat (first | refine zai ?_ _ | refine zaj ?_ | refine zag ?_ _)); exact BK415.out⟩, ⟨by repeat with_reducible first | exact HB.out | apply zae | apply zac | apply zad | refine zah ?_ GE414.out | refine zah ?_ GE415.out⟩⟩
  rw [if_pos c10] at H
  have c10b0 : (a0_5 == a1_5) = true := beq_iff_eq.mpr c10
  have c10b1 : (a0_5 != a1_5) = false := bne_eq_false_iff_eq.mpr c10
  clear c10
  by_cases c11 : a0_6 = a1_6
  rotate_left
  ·
   rw [if_neg c11] at H
   have c11b0 : (a0_6 == a1_6) = false := beq_eq_false_iff_ne.mpr c11
   have c11b1 : (a0_6 != a1_6) = true := bne_iff_ne.mpr c11
   have H' := Aside0.mk H
   clear H
   have hnb19 := NB414_415.out
   have hnc19 := NB415_414.out
   have hcz20_0 : w5.cell? ⟨gb414, 0, none⟩ = some (.int .i64 a0_0) := (zaa BK414.out 0).trans rfl
   have hcz20_1 : w5.cell? ⟨gb414, 1, none⟩ = some (.string a0_1) := (zaa BK414.out 1).trans rfl
   have hcz20_2 : w5.cell? ⟨gb414, 2, none⟩ = some (.string a0_2) := (zaa BK414.out 2).trans rfl
   have hcz20_3 : w5.cell? ⟨gb414, 3, none⟩ = some (.string a0_3) := (zaa BK414.out 3).trans rfl
   have hcz20_4 : w5.cell? ⟨gb414, 4, none⟩ = some (.slice A0_4 l0_4.length c0_4) := (zaa BK414.out 4).trans rfl
   have hcz20_5 : w5.cell? ⟨gb414, 5, none⟩ = some (.int .i64 a0_5) := (zaa BK414.out 5).trans rfl
   have hcz20_6 : w5.cell? ⟨gb414, 6, none⟩ = some (.int .i64 a0_6) := (zaa BK414.out 6).trans rfl
   have hcz20_7 : w5.cell? ⟨gb414, 7, none⟩ = some (.slice A0_7 l0_7.length c0_7) := (zaa BK414.out 7).trans rfl
   have hfz20_0 := zab BK414.out 0
   have hfz20_1 := zab BK414.out 1
   have hfz20_2 := zab BK414.out 2
   have hfz20_3 := zab BK414.out 3
   have hfz20_4 := zab BK414.out 4
   have hfz20_5 := zab BK414.out 5
   have hfz20_6 := zab BK414.out 6
   have hfz20_7 := zab BK414.out 7
   have hcz21_0 : w5.cell? ⟨gb415, 0, none⟩ = some (.int .i64 a1_0) := (zaa BK415.out 0).trans rfl
   have hcz21_1 : w5.cell? ⟨gb415, 1, none⟩ = some (.string a1_1) := (zaa BK415.out 1).trans rfl
   have hcz21_2 : w5.cell? ⟨gb415, 2, none⟩ = some (.string a1_2) := (zaa BK415.out 2).trans rfl
   have hcz21_3 : w5.cell? ⟨gb415, 3, none⟩ = some (.string a1_3) := (zaa BK415.out 3).trans rfl
   have hcz21_4 : w5.cell? ⟨gb415, 4, none⟩ = some (.slice A1_4 l1_4.length c1_4) := (zaa BK415.out 4).trans rfl
   have hcz21_5 : w5.cell? ⟨gb415, 5, none⟩ = some (.int .i64 a1_5) := (zaa BK415.out 5).trans rfl
   have hcz21_6 : w5.cell? ⟨gb415, 6, none⟩ = some (.int .i64 a1_6) := (zaa BK415.out 6).trans rfl
   have hcz21_7 : w5.cell? ⟨gb415, 7, none⟩ = some (.slice A1_7 l1_7.length c1_7) := (zaa BK415.out 7).trans rfl
   have hfz21_0 := zab BK415.out 0
   have hfz21_1 := zab BK415.out 1
   have hfz21_2 := zab BK415.out 2
   have hfz21_3 := zab BK415.out 3
   have hfz21_4 := zab BK415.out 4
   have hfz21_5 := zab BK415.out 5
   have hfz21_6 := zab BK415.out 6
   have hfz21_7 := zab BK415.out 7
   go_wp2
   repeat (go_quiet (fail); try go_wp2)
   go_meet
   case rel => exact ⟨_, (true), (by first | rfl | (simp; done) | (simp [*]; done)), H', ⟨by first | omega | exact Nat.le_refl _⟩, ⟨by (with_reducible repeat (first | refine zai ?_ _ | refine zaj ?_ | refine zag ?_ _)); exact BK414.out⟩, ⟨by (with_reducible repeat (first | refine zai ?_ _ | refine zaj ?_ | refine zag ?_ _)); exact BK415.out⟩, ⟨by repeat with_reducible first | exact HB.out | apply zae | apply zac | apply zad | refine zah ?_ GE414.out | refine zah ?_ GE415.out⟩⟩
  rw [if_pos c11] at H
  have c11b0 : (a0_6 == a1_6) = true := beq_iff_eq.mpr c11
  have c11b1 : (a0_6 != a1_6) = false := bne_eq_false_iff_eq.mpr c11
  clear c11
  by_cases c12 : (l0_4.length : Int) = (l1_4.length : Int)
  ·
   rw [if_pos c12] at H
   have c12b0 : ((l0_4.length : Int) == (l1_4.length : Int)) = true := beq_iff_eq.mpr c12
   have c12b1 : ((l0_4.length : Int) != (l1_4.length : Int)) = false := bne_eq_false_iff_eq.mpr c12
   have c12b2 : (l0_4.length == l1_4.length) = true := by first | simpa using c12 | (simp at c12 ⊢; omega)
   clear c12
   have H' := Aside0.mk H
   clear H
   have hnb13 := NB414_415.out
   have hnc13 := NB415_414.out
   have hcz14_0 : w5.cell? ⟨gb414, 0, none⟩ = some (.int .i64 a0_0) := (zaa BK414.out 0).trans rfl
   have hcz14_1 : w5.cell? ⟨gb414, 1, none⟩ = some (.string a0_1) := (zaa BK414.out 1).trans rfl
   have hcz14_2 : w5.cell? ⟨gb414, 2, none⟩ = some (.string a0_2) := (zaa BK414.out 2).trans rfl
   have hcz14_3 : w5.cell? ⟨gb414, 3, none⟩ = some (.string a0_3) := (zaa BK414.out 3).trans rfl
   have hcz14_4 : w5.cell? ⟨gb414, 4, none⟩ = some (.slice A0_4 l0_4.length c0_4) := (zaa BK414.out 4).trans rfl
   have hcz14_5 : w5.cell? ⟨gb414, 5, none⟩ = some (.int .i64 a0_5) := (zaa BK414.out 5).trans rfl
   have hcz14_6 : w5.cell? ⟨gb414, 6, none⟩ = some (.int .i64 a0_6) := (zaa BK414.out 6).trans rfl
   have hcz14_7 : w5.cell? ⟨gb414, 7, none⟩ = some (.slice A0_7 l0_7.length c0_7) := (zaa BK414.out 7).trans rfl
   have hfz14_0 := zab BK414.out 0
   have hfz14_1 := zab BK414.out 1
   have hfz14_2 := zab BK414.out 2
   have hfz14_3 := zab BK414.out 3
   have hfz14_4 := zab BK414.out 4
   have hfz14_5 := zab BK414.out 5
   have hfz14_6 := zab BK414.out 6
   have hfz14_7 := zab BK414.out 7
   have hcz15_0 : w5.cell? ⟨gb415, 0, none⟩ = some (.int .i64 a1_0) := (zaa BK415.out 0).trans rfl
   have hcz15_1 : w5.cell? ⟨gb415, 1, none⟩ = some (.string a1_1) := (zaa BK415.out 1).trans rfl
   have hcz15_2 : w5.cell? ⟨gb415, 2, none⟩ = some (.string a1_2) := (zaa BK415.out 2).trans rfl
   have hcz15_3 : w5.cell? ⟨gb415, 3, none⟩ = some (.string a1_3) := (zaa BK415.out 3).trans rfl
   have hcz15_4 : w5.cell? ⟨gb415, 4, none⟩ = some (.slice A1_4 l1_4.length c1_4) := (zaa BK415.out 4).trans rfl
   have hcz15_5 : w5.cell? ⟨gb415, 5, none⟩ = some (.int .i64 a1_5) := (zaa BK415.out 5).trans rfl
   have hcz15_6 : w5.cell? ⟨gb415, 6, none⟩ = some (.int .i64 a1_6) := (zaa BK415.out 6).trans rfl
   have hcz15_7 : w5.cell? ⟨gb415, 7, none⟩ = some (.slice A1_7 l1_7.length c1_7) := (zaa BK415.out 7).trans rfl
   have hfz15_0 := zab BK415.out 0
   have hfz15_1 := zab BK415.out 1
   have hfz15_2 := zab BK415.out 2
   have hfz15_3 := zab BK415.out 3
   have hfz15_4 := zab BK415.out 4
   have hfz15_5 := zab BK415.out 5
   have hfz15_6 := zab BK415.out 6
   have hfz15_7 := zab BK415.out 7
   go_wp2
   repeat (go_quiet (fail); try go_wp2)
   go_meet
   case rel => exact ⟨_, (((l0_7.length : Int) != (l1_7.length : Int))), (by first | rfl | (simp; done) | (simp [*]; done)), H', ⟨by first | omega | exact Nat.le_refl _⟩, ⟨by (with_reducible repeat (first | refine zai ?_ _ | refine zaj ?_ | refine zag ?_ _)); exact BK414.out⟩, ⟨by (with_reducible repeat (first | refine zai ?_ _ | refine zaj ?_ | refine zag ?_ _)); exact BK415.out⟩, ⟨by repeat with_reducible first | exact HB.out | apply zae | apply zac | apply zad | refine zah ?_ GE414.out | refine zah ?_ GE415.out⟩⟩
  rw [if_neg c12] at H
  have c12b0 : ((l0_4.length : Int) == (l1_4.length : Int)) = false := beq_eq_false_iff_ne.mpr c12
  have c12b1 : ((l0_4.length : Int) != (l1_4.length : Int)) = true := bne_iff_ne.mpr c12
  have c12b2 : (l0_4.length == l1_4.length) = false := by first | simpa using c12 | (simp at c12 ⊢; omega)
  have H' := Aside0.mk H
  clear H
  have hnb16 := NB414_415.out
  have hnc16 := NB415_414.out
  have hcz17_0 : w5.cell? ⟨gb414, 0, none⟩ = some (.int .i64 a0_0) := (zaa BK414.out 0).trans rfl
  have hcz17_1 : w5.cell? ⟨gb414, 1, none⟩ = some (.string a0_1) := (zaa BK414.out 1).trans rfl
  have hcz17_2 : w5.cell? ⟨gb414, 2, none⟩ = some (.string a0_2) := (zaa BK414.out 2).trans rfl
  have hcz17_3 : w5.cell? ⟨gb414, 3, none⟩ = some (.string a0_3) := (zaa BK414.out 3).trans rfl
  have hcz17_4 : w5.cell? ⟨gb414, 4, none⟩ = some (.slice A0_4 l0_4.length c0_4) := (zaa BK414.out 4).trans rfl
  have hcz17_5 : w5.cell? ⟨gb414, 5, none⟩ = some (.int .i64 a0_5) := (zaa BK414.out 5).trans rfl
  have hcz17_6 : w5.cell? ⟨gb414, 6, none⟩ = some (.int .i64 a0_6) := (zaa BK414.out 6).trans rfl
  have hcz17_7 : w5.cell? ⟨gb414, 7, none⟩ = some (.slice A0_7 l0_7.length c0_7) := (zaa BK414.out 7).trans rfl
  have hfz17_0 := zab BK414.out 0
  have hfz17_1 := zab BK414.out 1
  have hfz17_2 := zab BK414.out 2
  have hfz17_3 := zab BK414.out 3
  have hfz17_4 := zab BK414.out 4
  have hfz17_5 := zab BK414.out 5
  have hfz17_6 := zab BK414.out 6
  have hfz17_7 := zab BK414.out 7
  have hcz18_0 : w5.cell? ⟨gb415, 0, none⟩ = some (.int .i64 a1_0) := (zaa BK415.out 0).trans rfl
  have hcz18_1 : w5.cell? ⟨gb415, 1, none⟩ = some (.string a1_1) := (zaa BK415.out 1).trans rfl
  have hcz18_2 : w5.cell? ⟨gb415, 2, none⟩ = some (.string a1_2) := (zaa BK415.out 2).trans rfl
  have hcz18_3 : w5.cell? ⟨gb415, 3, none⟩ = some (.string a1_3) := (zaa BK415.out 3).trans rfl
  have hcz18_4 : w5.cell? ⟨gb415, 4, none⟩ = some (.slice A1_4 l1_4.length c1_4) := (zaa BK415.out 4).trans rfl
  have hcz18_5 : w5.cell? ⟨gb415, 5, none⟩ = some (.int .i64 a1_5) := (zaa BK415.out 5).trans rfl
  have hcz18_6 : w5.cell? ⟨gb415, 6, none⟩ = some (.int .i64 a1_6) := (zaa BK415.out 6).trans rfl
  have hcz18_7 : w5.cell? ⟨gb415, 7, none⟩ = some (.slice A1_7 l1_7.length c1_7) := (zaa BK415.out 7).trans rfl
  have hfz18_0 := zab BK415.out 0
  have hfz18_1 := zab BK415.out 1
  have hfz18_2 := zab BK415.out 2
  have hfz18_3 := zab BK415.out 3
  have hfz18_4 := zab BK415.out 4
  have hfz18_5 := zab BK415.out 5
  have hfz18_6 := zab BK415.out 6
  have hfz18_7 := zab BK415.out 7
  go_wp2
  repeat (go_quiet (fail); try go_wp2)
  go_meet
  case rel => exact ⟨_, (true), (by first | rfl | (simp; done) | (simp [*]; done)), H', ⟨by first | omega | exact Nat.le_refl _⟩, ⟨by (with_reducible repeat (first | refine zai ?_ _ | refine zaj ?_ | refine zag ?_ _)); exact BK414.out⟩, ⟨by (with_reducible repeat (first | refine zai ?_ _ | refine zaj ?_ | refine zag ?_ _)); exact BK415.out⟩, ⟨by repeat with_reducible first | exact HB.out | apply zae | apply zac | apply zad | refine zah ?_ GE414.out | refine zah ?_ GE415.out⟩⟩
 case rest =>
  clear HC3
  try clear c1
  try clear c2
  try clear p2
  try clear c3
  try clear c6
  try clear c6b0
  try clear c6b1
  try clear c6b2
  try clear c7
  try clear c7b0
  try clear c7b1
  try clear c8
  try clear c8b0
  try clear c8b1
  try clear c9
  try clear c9b0
  try clear c9b1
  try clear c10
  try clear c10b0
  try clear c10b1
  try clear c11
  try clear c11b0
  try clear c11b1
  try clear c12
  try clear c12b0
  try clear c12b1
  try clear c12b2
  try clear c13
  try clear c16
  try clear c19
  try clear c22
  try clear c25
  try clear c28
  try clear c31
  try clear c33
  try clear c34
  try clear hcz14_0
  try clear hcz14_1
  try clear hcz14_2
  try clear hcz14_3
  try clear hcz14_4
  try clear hcz14_5
  try clear hcz14_6
  try clear hcz14_7
  try clear hcz15_0
  try clear hcz15_1
  try clear hcz15_2
  try clear hcz15_3
  try clear hcz15_4
  try clear hcz15_5
  try clear hcz15_6
  try clear hcz15_7
  try clear hcz17_0
  try clear hcz17_1
  try clear hcz17_2
  try clear hcz17_3
  try clear hcz17_4
  try clear hcz17_5
  try clear hcz17_6
  try clear hcz17_7
  try clear hcz18_0
  try clear hcz18_1
  try clear hcz18_2
  try clear hcz18_3
  try clear hcz18_4
  try clear hcz18_5
  try clear hcz18_6
  try clear hcz18_7
  try clear hcz20_0
  try clear hcz20_1
  try clear hcz20_2
  try clear hcz20_3
  try clear hcz20_4
  try clear hcz20_5
  try clear hcz20_6
  try clear hcz20_7
  try clear hcz21_0
  try clear hcz21_1
  try clear hcz21_2
  try clear hcz21_3
  try clear hcz21_4
  try clear hcz21_5
  try clear hcz21_6
  try clear hcz21_7
  try clear hcz23_0
  try clear hcz23_1
  try clear hcz23_2
  try clear hcz23_3
  try clear hcz23_4
  try clear hcz23_5
  try clear hcz23_6
  try clear hcz23_7
  try clear hcz24_0
  try clear hcz24_1
  try clear hcz24_2
  try clear hcz24_3
  try clear hcz24_4
  try clear hcz24_5
  try clear hcz24_6
  try clear hcz24_7
  try clear hcz26_0
  try clear hcz26_1
  try clear hcz26_2
  try clear hcz26_3
  try clear hcz26_4
  try clear hcz26_5
  try clear hcz26_6
  try clear hcz26_7
  try clear hcz27_0
  try clear hcz27_1
  try clear hcz27_2
  try clear hcz27_3
  try clear hcz27_4
  try clear hcz27_5
  try clear hcz27_6
  try clear hcz27_7
  try clear hcz29_0
  try clear hcz29_1
  try clear hcz29_2
  try clear hcz29_3
  try clear hcz29_4
  try clear hcz29_5
  try clear hcz29_6
  try clear hcz29_7
  try clear hcz30_0
  try clear hcz30_1
  try clear hcz30_2
  try clear hcz30_3
  try clear hcz30_4
  try clear hcz30_5
  try clear hcz30_6
  try clear hcz30_7
  try clear hcz32_0
  try clear hcz32_1
  try clear hcz32_2
  try clear hcz32_3
  try clear hcz32_4
  try clear hcz32_5
  try clear hcz32_6
  try clear hcz32_7
  try clear hcz33_0
  try clear hcz33_1
  try clear hcz33_2
  try clear hcz33_3
  try clear hcz33_4
  try clear hcz33_5
  try clear hcz33_6
  try clear hcz33_7
  try clear hcz35_0
  try clear hcz35_1
  try clear hcz35_2
  try clear hcz35_3
  try clear hcz35_4
  try clear hcz35_5
  try clear hcz35_6
  try clear hcz35_7
  try clear hcz36_0
  try clear hcz36_1
  try clear hcz36_2
  try clear hcz36_3
  try clear hcz36_4
  try clear hcz36_5
  try clear hcz36_6
  try clear hcz36_7
  try clear hfz14_0
  try clear hfz14_1
  try clear hfz14_2
  try clear hfz14_3
  try clear hfz14_4
  try clear hfz14_5
  try clear hfz14_6
  try clear hfz14_7
  try clear hfz15_0
  try clear hfz15_1
  try clear hfz15_2
  try clear hfz15_3
  try clear hfz15_4
  try clear hfz15_5
  try clear hfz15_6
  try clear hfz15_7
  try clear hfz17_0
  try clear hfz17_1
  try clear hfz17_2
  try clear hfz17_3
  try clear hfz17_4
  try clear hfz17_5
  try clear hfz17_6
  try clear hfz17_7
  try clear hfz18_0
  try clear hfz18_1
  try clear hfz18_2
  try clear hfz18_3
  try clear hfz18_4
  try clear hfz18_5
  try clear hfz18_6
  try clear hfz18_7
  try clear hfz20_0
  try clear hfz20_1
  try clear hfz20_2
  try clear hfz20_3
  try clear hfz20_4
  try clear hfz20_5
  try clear hfz20_6
  try clear hfz20_7
  try clear hfz21_0
  try clear hfz21_1
  try clear hfz21_2
  try clear hfz21_3
  try clear hfz21_4
  try clear hfz21_5
  try clear hfz21_6
  try clear hfz21_7
  try clear hfz23_0
  try clear hfz23_1
  try clear hfz23_2
  try clear hfz23_3
  try clear hfz23_4
  try clear hfz23_5
  try clear hfz23_6
  try clear hfz23_7
  try clear hfz24_0
  try clear hfz24_1
  try clear hfz24_2
  try clear hfz24_3
  try clear hfz24_4
  try clear hfz24_5
  try clear hfz24_6
  try clear hfz24_7
  try clear hfz26_0
  try clear hfz26_1
  try clear hfz26_2
  try clear hfz26_3
  try clear hfz26_4
  try clear hfz26_5
  try clear hfz26_6
  try clear hfz26_7
  try clear hfz27_0
  try clear hfz27_1
  try clear hfz27_2
  try clear hfz27_3
  try clear hfz27_4
  try clear hfz27_5
  try clear hfz27_6
  try clear hfz27_7
  try clear hfz29_0
  try clear hfz29_1
  try clear hfz29_2
  try clear hfz29_3
  try clear hfz29_4
  try clear hfz29_5
  try clear hfz29_6
  try clear hfz29_7
  try clear hfz30_0
  try clear hfz30_1
  try clear hfz30_2
  try clear hfz30_3
  try clear hfz30_4
  try clear hfz30_5
  try clear hfz30_6
  try clear hfz30_7
  try clear hfz32_0
  try clear hfz32_1
  try clear hfz32_2
  try clear hfz32_3
  try clear hfz32_4
  try clear hfz32_5
  try clear hfz32_6
  try clear hfz32_7
  try clear hfz33_0
  try clear hfz33_1
  try clear hfz33_2
  try clear hfz33_3
  try clear hfz33_4
  try clear hfz33_5
  try clear hfz33_6
  try clear hfz33_7
  try clear hfz35_0
  try clear hfz35_1
  try clear hfz35_2
  try clear hfz35_3
  try clear hfz35_4
  try clear hfz35_5
  try clear hfz35_6
  try clear hfz35_7
  try clear hfz36_0
  try clear hfz36_1
  try clear hfz36_2
  try clear hfz36_3
  try clear hfz36_4
  try clear hfz36_5
  try clear hfz36_6
  try clear hfz36_7
  obtain ⟨kq, x64_2, rfl, HA, HJ2, BK414, BK415, HB⟩ := hcut
  cases kq with
  | zero => exact absurd HA.out (by simp [cofferref22_SameStep.j0])
  | succ kj2 =>
   have H := HA.out
   clear HA
   simp only [cofferref22_SameStep.j0] at H
   by_cases c37 : x64_2 = true
   ·
    subst c37
    have H1 : (some false) = some r := by rw [if_pos rfl] at H; exact H
    clear H
    have H := H1
    clear H1
    obtain rfl := Option.some.inj H
    go_wp2
    repeat (go_quiet (fail); try go_wp2)
    go_ret
    exact ⟨by first | rfl | (simp [zam, zan] <;> rfl) | (simp [*, zam, zan] <;> rfl), by repeat with_reducible first | exact HB.out | apply zae | apply zac | apply zad | refine zah ?_ GE414.out | refine zah ?_ GE415.out⟩
   replace c37 := Bool.eq_false_iff.mpr c37
   subst c37
   have H1 : (cofferref22_SameStep.l0 kj2 0 a0_0 a0_1 a0_2 a0_3 l0_4 a0_5 a0_6 l0_7 a1_0 a1_1 a1_2 a1_3 l1_4 a1_5 a1_6 l1_7) = some r := by rw [if_neg (show ¬ (false = true) by decide)] at H; exact H
   clear H
   have H := H1
   clear H1
   have H' := Aside0.mk H
   clear H
   go_wp2
   repeat (go_quiet (fail); try go_wp2)
   go_loopg [5] kj2 (fun kq v5 w' => ∃ (x5_2 : Int), v5 = .int .i64 x5_2 ∧ Aside0 (cofferref22_SameStep.l0 kq x5_2 a0_0 a0_1 a0_2 a0_3 l0_4 a0_5 a0_6 l0_7 a1_0 a1_1 a1_2 a1_3 l1_4 a1_5 a1_6 l1_7 = some r) ∧ Aside0 (kq ≤ kj2) ∧ Aside0 (w'.heap[gb414]? = some (.cells #[.int .i64 a0_0, .string a0_1, .string a0_2, .string a0_3, (.slice A0_4 l0_4.length c0_4), .int .i64 a0_5, .int .i64 a0_6, (.slice A0_7 l0_7.length c0_7)] 55 (0, 0))) ∧ Aside0 (w'.heap[gb415]? = some (.cells #[.int .i64 a1_0, .string a1_1, .string a1_2, .string a1_3, (.slice A1_4 l1_4.length c1_4), .int .i64 a1_5, .int .i64 a1_6, (.slice A1_7 l1_7.length c1_7)] 55 (0, 0))) ∧ Aside0 (Below w.heap.size w w'))
   case atStart => exact ⟨(0), (by first | rfl | (simp; done) | (simp [*]; done)), H', ⟨Nat.le_refl _⟩, ⟨by (with_reducible repeat (first | refine zai ?_ _ | refine zaj ?_ | refine zag ?_ _)); exact BK414.out⟩, ⟨by (with_reducible repeat (first | refine zai ?_ _ | refine zaj ?_ | refine zag ?_ _)); exact BK415.out⟩, ⟨by repeat with_reducible first | exact HB.out | apply zae | apply zac | apply zad | refine zah ?_ GE414.out | refine zah ?_ GE415.out⟩⟩
   case round =>
    clear H'
    try clear c1
    try clear c2
    try clear p2
    try clear c3
    try clear c6
    try clear c6b0
    try clear c6b1
    try clear c6b2
    try clear c7
    try clear c7b0
    try clear c7b1
    try clear c8
    try clear c8b0
    try clear c8b1
    try clear c9
    try clear c9b0
    try clear c9b1
    try clear c10
    try clear c10b0
    try clear c10b1
    try clear c11
    try clear c11b0
    try clear c11b1
    try clear c12
    try clear c12b0
    try clear c12b1
    try clear c12b2
    try clear c13
    try clear c16
    try clear c19
    try clear c22
    try clear c25
    try clear c28
    try clear c31
    try clear c33
    try clear c34
    try clear c37
    try clear hcz14_0
    try clear hcz14_1
    try clear hcz14_2
    try clear hcz14_3
    try clear hcz14_4
    try clear hcz14_5
    try clear hcz14_6
    try clear hcz14_7
    try clear hcz15_0
    try clear hcz15_1
    try clear hcz15_2
    try clear hcz15_3
    try clear hcz15_4
    try clear hcz15_5
    try clear hcz15_6
    try clear hcz15_7
    try clear hcz17_0
    try clear hcz17_1
    try clear hcz17_2
    try clear hcz17_3
    try clear hcz17_4
    try clear hcz17_5
    try clear hcz17_6
    try clear hcz17_7
    try clear hcz18_0
    try clear hcz18_1
    try clear hcz18_2
    try clear hcz18_3
    try clear hcz18_4
    try clear hcz18_5
    try clear hcz18_6
    try clear hcz18_7
    try clear hcz20_0
    try clear hcz20_1
    try clear hcz20_2
    try clear hcz20_3
    try clear hcz20_4
    try clear hcz20_5
    try clear hcz20_6
    try clear hcz20_7
    try clear hcz21_0
    try clear hcz21_1
    try clear hcz21_2
    try clear hcz21_3
    try clear hcz21_4
    try clear hcz21_5
    try clear hcz21_6
    try clear hcz21_7
    try clear hcz23_0
    try clear hcz23_1
    try clear hcz23_2
    try clear hcz23_3
    try clear hcz23_4
    try clear hcz23_5
    try clear hcz23_6
    try clear hcz23_7
    try clear hcz24_0
    try clear hcz24_1
    try clear hcz24_2
    try clear hcz24_3
    try clear hcz24_4
    try clear hcz24_5
    try clear hcz24_6
    try clear hcz24_7
    try clear hcz26_0
    try clear hcz26_1
    try clear hcz26_2
    try clear hcz26_3
    try clear hcz26_4
    try clear hcz26_5
    try clear hcz26_6
    try clear hcz26_7
    try clear hcz27_0
    try clear hcz27_1
    try clear hcz27_2
    try clear hcz27_3
    try clear hcz27_4
    try clear hcz27_5
    try clear hcz27_6
    try clear hcz27_7
    try clear hcz29_0
    try clear hcz29_1
    try clear hcz29_2
    try clear hcz29_3
    try clear hcz29_4
    try clear hcz29_5
    try clear hcz29_6
    try clear hcz29_7
    try clear hcz30_0
    try clear hcz30_1
    try clear hcz30_2
    try clear hcz30_3
    try clear hcz30_4
    try clear hcz30_5
    try clear hcz30_6
    try clear hcz30_7
    try clear hcz32_0
    try clear hcz32_1
    try clear hcz32_2
    try clear hcz32_3
    try clear hcz32_4
    try clear hcz32_5
    try clear hcz32_6
    try clear hcz32_7
    try clear hcz33_0
    try clear hcz33_1
    try clear hcz33_2
    try clear hcz33_3
    try clear hcz33_4
    try clear hcz33_5
    try clear hcz33_6
    try clear hcz33_7
    try clear hcz35_0
    try clear hcz35_1
    try clear hcz35_2
    try clear hcz35_3
    try clear hcz35_4
    try clear hcz35_5
    try clear hcz35_6
    try clear hcz35_7
    try clear hcz36_0
    try clear hcz36_1
    try clear hcz36_2
    try clear hcz36_3
    try clear hcz36_4
    try clear hcz36_5
    try clear hcz36_6
    try clear hcz36_7
    try clear hfz14_0
    try clear hfz14_1
    try clear hfz14_2
    try clear hfz14_3
    try clear hfz14_4
    try clear hfz14_5
    try clear hfz14_6
    try clear hfz14_7
    try clear hfz15_0
    try clear hfz15_1
    try clear hfz15_2
    try clear hfz15_3
    try clear hfz15_4
    try clear hfz15_5
    try clear hfz15_6
    try clear hfz15_7
    try clear hfz17_0
    try clear hfz17_1
    try clear hfz17_2
    try clear hfz17_3
    try clear hfz17_4
    try clear hfz17_5
    try clear hfz17_6
    try clear hfz17_7
    try clear hfz18_0
    try clear hfz18_1
    try clear hfz18_2
    try clear hfz18_3
    try clear hfz18_4
    try clear hfz18_5
    try clear hfz18_6
    try clear hfz18_7
    try clear hfz20_0
    try clear hfz20_1
    try clear hfz20_2
    try clear hfz20_3
    try clear hfz20_4
    try clear hfz20_5
    try clear hfz20_6
    try clear hfz20_7
    try clear hfz21_0
    try clear hfz21_1
    try clear hfz21_2
    try clear hfz21_3
    try clear hfz21_4
    try clear hfz21_5
    try clear hfz21_6
    try clear hfz21_7
    try clear hfz23_0
    try clear hfz23_1
    try clear hfz23_2
    try clear hfz23_3
    try clear hfz23_4
    try clear hfz23_5
    try clear hfz23_6
    try clear hfz23_7
    try clear hfz24_0
    try clear hfz24_1
    try clear hfz24_2
    try clear hfz24_3
    try clear hfz24_4
    try clear hfz24_5
    try clear hfz24_6
    try clear hfz24_7
    try clear hfz26_0
    try clear hfz26_1
    try clear hfz26_2
    try clear hfz26_3
    try clear hfz26_4
    try clear hfz26_5
    try clear hfz26_6
    try clear hfz26_7
    try clear hfz27_0
    try clear hfz27_1
    try clear hfz27_2
    try clear hfz27_3
    try clear hfz27_4
    try clear hfz27_5
    try clear hfz27_6
    try clear hfz27_7
    try clear hfz29_0
    try clear hfz29_1
    try clear hfz29_2
    try clear hfz29_3
    try clear hfz29_4
    try clear hfz29_5
    try clear hfz29_6
    try clear hfz29_7
    try clear hfz30_0
    try clear hfz30_1
    try clear hfz30_2
    try clear hfz30_3
    try clear hfz30_4
    try clear hfz30_5
    try clear hfz30_6
    try clear hfz30_7
    try clear hfz32_0
    try clear hfz32_1
    try clear hfz32_2
    try clear hfz32_3
    try clear hfz32_4
    try clear hfz32_5
    try clear hfz32_6
    try clear hfz32_7
    try clear hfz33_0
    try clear hfz33_1
    try clear hfz33_2
    try clear hfz33_3
    try clear hfz33_4
    try clear hfz33_5
    try clear hfz33_6
    try clear hfz33_7
    try clear hfz35_0
    try clear hfz35_1
    try clear hfz35_2
    try clear hfz35_3
    try clear hfz35_4
    try clear hfz35_5
    try clear hfz35_6
    try clear hfz35_7
    try clear hfz36_0
    try clear hfz36_1
    try clear hfz36_2
    try clear hfz36_3
    try clear hfz36_4
    try clear hfz36_5
    try clear hfz36_6
    try clear hfz36_7
    try clear p2
    obtain ⟨x5_2, rfl, HA, HK2, BK414, BK415, HB⟩ := hrel
    cases gk with
    | zero => exact absurd HA.out (by simp [cofferref22_SameStep.l0])
    | succ k2 =>
     have H := HA.out
     clear HA
     simp only [cofferref22_SameStep.l0] at H
     by_cases c38 : x5_2 < (l0_4.length : Int)
     ·
      rw [if_pos c38] at H
      have c38b0 : decide (x5_2 < (l0_4.length : Int)) = true := decide_eq_true c38
      clear c38
      by_cases c39 : 0 ≤ x5_2
      rotate_left
      ·
       rw [if_neg c39] at H
       exact absurd H (by simp)
      rw [if_pos c39] at H
      have c39b0 : decide (0 ≤ x5_2) = true := decide_eq_true c39
      clear c39
      by_cases c40 : x5_2 < (l1_4.length : Int)
      rotate_left
      ·
       rw [if_neg c40] at H
       exact absurd H (by simp)
      rw [if_pos c40] at H
      have c40b0 : decide (x5_2 < (l1_4.length : Int)) = true := decide_eq_true c40
      clear c40
      by_cases c41 : (!((((rd_T38 l0_4 x5_2).f0).toList) == (((rd_T38 l1_4 x5_2).f0).toList)) || (!((((rd_T38 l0_4 x5_2).f1).toList) == (((rd_T38 l1_4 x5_2).f1).toList)))) = true
      ·
       rw [if_pos c41] at H
       have c41b0 : (!((((rd_T38 l0_4 x5_2).f0).toList) == (((rd_T38 l1_4 x5_2).f0).toList)) || (!((((rd_T38 l0_4 x5_2).f1).toList) == (((rd_T38 l1_4 x5_2).f1).toList)))) = true := c41
       clear c41
       obtain rfl := Option.some.inj H
       have hnb42 := NB414_415.out
       have hnc42 := NB415_414.out
       have hcz43_0 : wr.cell? ⟨gb414, 0, none⟩ = some (.int .i64 a0_0) := (zaa BK414.out 0).trans rfl
       have hcz43_1 : wr.cell? ⟨gb414, 1, none⟩ = some (.string a0_1) := (zaa BK414.out 1).trans rfl
       have hcz43_2 : wr.cell? ⟨gb414, 2, none⟩ = some (.string a0_2) := (zaa BK414.out 2).trans rfl
       have hcz43_3 : wr.cell? ⟨gb414, 3, none⟩ = some (.string a0_3) := (zaa BK414.out 3).trans rfl
       have hcz43_4 : wr.cell? ⟨gb414, 4, none⟩ = some (.slice A0_4 l0_4.length c0_4) := (zaa BK414.out 4).trans rfl
       have hcz43_5 : wr.cell? ⟨gb414, 5, none⟩ = some (.int .i64 a0_5) := (zaa BK414.out 5).trans rfl
       have hcz43_6 : wr.cell? ⟨gb414, 6, none⟩ = some (.int .i64 a0_6) := (zaa BK414.out 6).trans rfl
       have hcz43_7 : wr.cell? ⟨gb414, 7, none⟩ = some (.slice A0_7 l0_7.length c0_7) := (zaa BK414.out 7).trans rfl
       have hfz43_0 := zab BK414.out 0
       have hfz43_1 := zab BK414.out 1
       have hfz43_2 := zab BK414.out 2
       have hfz43_3 := zab BK414.out 3
       have hfz43_4 := zab BK414.out 4
       have hfz43_5 := zab BK414.out 5
       have hfz43_6 := zab BK414.out 6
       have hfz43_7 := zab BK414.out 7
       have p416 : 0 ≤ (x5_2 : Int) := of_decide_eq_true (by first | (with_reducible assumption) | assumption)
       have q416 : x5_2 < (l0_4.length : Int) := of_decide_eq_true (by first | (with_reducible assumption) | assumption)
       obtain ⟨ad416, e416, hx416_0, hx416_1⟩ := at_T38 HR0_4.out x5_2 p416 q416
       cases e416
       replace hx416_0 := co HB.out hx416_0
       replace hx416_1 := co HB.out hx416_1
       replace p416 := eq_true p416
       replace q416 := eq_true q416
       have hcz44_0 : wr.cell? ⟨gb415, 0, none⟩ = some (.int .i64 a1_0) := (zaa BK415.out 0).trans rfl
       have hcz44_1 : wr.cell? ⟨gb415, 1, none⟩ = some (.string a1_1) := (zaa BK415.out 1).trans rfl
       have hcz44_2 : wr.cell? ⟨gb415, 2, none⟩ = some (.string a1_2) := (zaa BK415.out 2).trans rfl
       have hcz44_3 : wr.cell? ⟨gb415, 3, none⟩ = some (.string a1_3) := (zaa BK415.out 3).trans rfl
       have hcz44_4 : wr.cell? ⟨gb415, 4, none⟩ = some (.slice A1_4 l1_4.length c1_4) := (zaa BK415.out 4).trans rfl
       have hcz44_5 : wr.cell? ⟨gb415, 5, none⟩ = some (.int .i64 a1_5) := (zaa BK415.out 5).trans rfl
       have hcz44_6 : wr.cell? ⟨gb415, 6, none⟩ = some (.int .i64 a1_6) := (zaa BK415.out 6).trans rfl
       have hcz44_7 : wr.cell? ⟨gb415, 7, none⟩ = some (.slice A1_7 l1_7.length c1_7) := (zaa BK415.out 7).trans rfl
       have hfz44_0 := zab BK415.out 0
       have hfz44_1 := zab BK415.out 1
       have hfz44_2 := zab BK415.out 2
       have hfz44_3 := zab BK415.out 3
       have hfz44_4 := zab BK415.out 4
       have hfz44_5 := zab BK415.out 5
       have hfz44_6 := zab BK415.out 6
       have hfz44_7 := zab BK415.out 7
       have p417 : 0 ≤ (x5_2 : Int) := of_decide_eq_true (by first | (with_reducible assumption) | assumption)
       have q417 : x5_2 < (l1_4.length : Int) := of_decide_eq_true (by first | (with_reducible assumption) | assumption)
       obtain ⟨ad417, e417, hx417_0, hx417_1⟩ := at_T38 HR1_4.out x5_2 p417 q417
       cases e417
       replace hx417_0 := co HB.out hx417_0
       replace hx417_1 := co HB.out hx417_1
       replace p417 := eq_true p417
       replace q417 := eq_true q417
       go_wp2
       repeat (go_quiet (fail); try go_wp2)
       go_ret
       exact ⟨by first | rfl | (simp [zam, zan] <;> rfl) | (simp [*, zam, zan] <;> rfl), by repeat with_reducible first | exact HB.out | apply zae | apply zac | apply zad | refine zah ?_ GE414.out | refine zah ?_ GE415.out⟩
      rw [if_neg c41] at H
      have c41b0 : (!((((rd_T38 l0_4 x5_2).f0).toList) == (((rd_T38 l1_4 x5_2).f0).toList)) || (!((((rd_T38 l0_4 x5_2).f1).toList) == (((rd_T38 l1_4 x5_2).f1).toList)))) = false := by simpa using c41
      clear c41
      have H' := Aside0.mk H
      clear H
      have hnb45 := NB414_415.out
      have hnc45 := NB415_414.out
      have hcz46_0 : wr.cell? ⟨gb414, 0, none⟩ = some (.int .i64 a0_0) := (zaa BK414.out 0).trans rfl
      have hcz46_1 : wr.cell? ⟨gb414, 1, none⟩ = some (.string a0_1) := (zaa BK414.out 1).trans rfl
      have hcz46_2 : wr.cell? ⟨gb414, 2, none⟩ = some (.string a0_2) := (zaa BK414.out 2).trans rfl
      have hcz46_3 : wr.cell? ⟨gb414, 3, none⟩ = some (.string a0_3) := (zaa BK414.out 3).trans rfl
      have hcz46_4 : wr.cell? ⟨gb414, 4, none⟩ = some (.slice A0_4 l0_4.length c0_4) := (zaa BK414.out 4).trans rfl
      have hcz46_5 : wr.cell? ⟨gb414, 5, none⟩ = some (.int .i64 a0_5) := (zaa BK414.out 5).trans rfl
      have hcz46_6 : wr.cell? ⟨gb414, 6, none⟩ = some (.int .i64 a0_6) := (zaa BK414.out 6).trans rfl
      have hcz46_7 : wr.cell? ⟨gb414, 7, none⟩ = some (.slice A0_7 l0_7.length c0_7) := (zaa BK414.out 7).trans rfl
      have hfz46_0 := zab BK414.out 0
      have hfz46_1 := zab BK414.out 1
      have hfz46_2 := zab BK414.out 2
      have hfz46_3 := zab BK414.out 3
      have hfz46_4 := zab BK414.out 4
      have hfz46_5 := zab BK414.out 5
      have hfz46_6 := zab BK414.out 6
      have hfz46_7 := zab BK414.out 7
      have p416 : 0 ≤ (x5_2 : Int) := of_decide_eq_true (by first | (with_reducible assumption) | assumption)
      have q416 : x5_2 < (l0_4.length : Int) := of_decide_eq_true (by first | (with_reducible assumption) | assumption)
      obtain ⟨ad416, e416, hx416_0, hx416_1⟩ := at_T38 HR0_4.out x5_2 p416 q416
      cases e416
      replace hx416_0 := co HB.out hx416_0
      replace hx416_1 := co HB.out hx416_1
      replace p416 := eq_true p416
      replace q416 := eq_true q416
      have hcz47_0 : wr.cell? ⟨gb415, 0, none⟩ = some (.int .i64 a1_0) := (zaa BK415.out 0).trans rfl
      have hcz47_1 : wr.cell? ⟨gb415, 1, none⟩ = some (.string a1_1) := (zaa BK415.out 1).trans rfl
      have hcz47_2 : wr.cell? ⟨gb415, 2, none⟩ = some (.string a1_2) := (zaa BK415.out 2).trans rfl
      have hcz47_3 : wr.cell? ⟨gb415, 3, none⟩ = some (.string a1_3) := (zaa BK415.out 3).trans rfl
      have hcz47_4 : wr.cell? ⟨gb415, 4, none⟩ = some (.slice A1_4 l1_4.length c1_4) := (zaa BK415.out 4).trans rfl
      have hcz47_5 : wr.cell? ⟨gb415, 5, none⟩ = some (.int .i64 a1_5) := (zaa BK415.out 5).trans rfl
      have hcz47_6 : wr.cell? ⟨gb415, 6, none⟩ = some (.int .i64 a1_6) := (zaa BK415.out 6).trans rfl
      have hcz47_7 : wr.cell? ⟨gb415, 7, none⟩ = some (.slice A1_7 l1_7.length c1_7) := (zaa BK415.out 7).trans rfl
      have hfz47_0 := zab BK415.out 0
      have hfz47_1 := zab BK415.out 1
      have hfz47_2 := zab BK415.out 2
      have hfz47_3 := zab BK415.out 3
      have hfz47_4 := zab BK415.out 4
      have hfz47_5 := zab BK415.out 5
      have hfz47_6 := zab BK415.out 6
      have hfz47_7 := zab BK415.out 7
      have p417 : 0 ≤ (x5_2 : Int) := of_decide_eq_true (by first | (with_reducible assumption) | assumption)
      have q417 : x5_2 < (l1_4.length : Int) := of_decide_eq_true (by first | (with_reducible assumption) | assumption)
      obtain ⟨ad417, e417, hx417_0, hx417_1⟩ := at_T38 HR1_4.out x5_2 p417 q417
      cases e417
      replace hx417_0 := co HB.out hx417_0
      replace hx417_1 := co HB.out hx417_1
      replace p417 := eq_true p417
      replace q417 := eq_true q417
      go_wp2
      repeat (go_quiet (fail); try go_wp2)
      go_roundg k2
      case measure => have := HJ2.out; have := HK2.out; omega
      case rel => exact ⟨(wrap64 (x5_2 + 1)), (by first | rfl | (simp; done) | (simp [*]; done)), H', ⟨by have := HJ2.out; have := HK2.out; omega⟩, ⟨by (with_reducible repeat (first | refine zai ?_ _ | refine zaj ?_ | refine zag ?_ _)); exact BK414.out⟩, ⟨by (with_reducible repeat (first | refine zai ?_ _ | refine zaj ?_ | refine zag ?_ _)); exact BK415.out⟩, ⟨by repeat with_reducible first | exact HB.out | apply zae | apply zac | apply zad | refine zah ?_ GE414.out | refine zah ?_ GE415.out⟩⟩
     rw [if_neg c38] at H
     have c38b0 : decide (x5_2 < (l0_4.length : Int)) = false := decide_eq_false c38
     clear c38
     have H' := Aside0.mk H
     clear H
     have hnb48 := NB414_415.out
     have hnc48 := NB415_414.out
     have hcz49_0 : wr.cell? ⟨gb414, 0, none⟩ = some (.int .i64 a0_0) := (zaa BK414.out 0).trans rfl
     have hcz49_1 : wr.cell? ⟨gb414, 1, none⟩ = some (.string a0_1) := (zaa BK414.out 1).trans rfl
     have hcz49_2 : wr.cell? ⟨gb414, 2, none⟩ = some (.string a0_2) := (zaa BK414.out 2).trans rfl
     have hcz49_3 : wr.cell? ⟨gb414, 3, none⟩ = some (.string a0_3) := (zaa BK414.out 3).trans rfl
     have hcz49_4 : wr.cell? ⟨gb414, 4, none⟩ = some (.slice A0_4 l0_4.length c0_4) := (zaa BK414.out 4).trans rfl
     have hcz49_5 : wr.cell? ⟨gb414, 5, none⟩ = some (.int .i64 a0_5) := (zaa BK414.out 5).trans rfl
     have hcz49_6 : wr.cell? ⟨gb414, 6, none⟩ = some (.int .i64 a0_6) := (zaa BK414.out 6).trans rfl
     have hcz49_7 : wr.cell? ⟨gb414, 7, none⟩ = some (.slice A0_7 l0_7.length c0_7) := (zaa BK414.out 7).trans rfl
     have hfz49_0 := zab BK414.out 0
     have hfz49_1 := zab BK414.out 1
     have hfz49_2 := zab BK414.out 2
     have hfz49_3 := zab BK414.out 3
     have hfz49_4 := zab BK414.out 4
     have hfz49_5 := zab BK414.out 5
     have hfz49_6 := zab BK414.out 6
     have hfz49_7 := zab BK414.out 7
     go_wp2
     repeat (go_quiet (fail); try go_wp2)
     go_loopg [6] k2 (fun kq v6 w' => ∃ (x6_3 : Int), v6 = .int .i64 x6_3 ∧ Aside0 (cofferref22_SameStep.l1 kq x6_3 a0_0 a0_1 a0_2 a0_3 l0_4 a0_5 a0_6 l0_7 a1_0 a1_1 a1_2 a1_3 l1_4 a1_5 a1_6 l1_7 = some r) ∧ Aside0 (kq ≤ k2) ∧ Aside0 (w'.heap[gb414]? = some (.cells #[.int .i64 a0_0, .string a0_1, .string a0_2, .string a0_3, (.slice A0_4 l0_4.length c0_4), .int .i64 a0_5, .int .i64 a0_6, (.slice A0_7 l0_7.length c0_7)] 55 (0, 0))) ∧ Aside0 (w'.heap[gb415]? = some (.cells #[.int .i64 a1_0, .string a1_1, .string a1_2, .string a1_3, (.slice A1_4 l1_4.length c1_4), .int .i64 a1_5, .int .i64 a1_6, (.slice A1_7 l1_7.length c1_7)] 55 (0, 0))) ∧ Aside0 (Below w.heap.size w w'))
     case atStart => exact ⟨(0), (by first | rfl | (simp; done) | (simp [*]; done)), H', ⟨Nat.le_refl _⟩, ⟨by (with_reducible repeat (first | refine zai ?_ _ | refine zaj ?_ | refine zag ?_ _)); exact BK414.out⟩, ⟨by (with_reducible repeat (first | refine zai ?_ _ | refine zaj ?_ | refine zag ?_ _)); exact BK415.out⟩, ⟨by repeat with_reducible first | exact HB.out | apply zae | apply zac | apply zad | refine zah ?_ GE414.out | refine zah ?_ GE415.out⟩⟩
     case round =>
      clear H'
      try clear c1
      try clear c2
      try clear p2
      try clear c3
      try clear c4
      try clear p4
      try clear q4
      try clear hx4
      try clear c6
      try clear c6b0
      try clear c6b1
      try clear c6b2
      try clear p6
      try clear c7
      try clear c7b0
      try clear c7b1
      try clear c8
      try clear c8b0
      try clear c8b1
      try clear c9
      try clear c9b0
      try clear c9b1
      try clear c10
      try clear c10b0
      try clear c10b1
      try clear c11
      try clear c11b0
      try clear c11b1
      try clear c12
      try clear c12b0
      try clear c12b1
      try clear c12b2
      try clear c13
      try clear c16
      try clear c19
      try clear c22
      try clear c25
      try clear c28
      try clear c31
      try clear c33
      try clear c34
      try clear c37
      try clear c38
      try clear c38b0
      try clear c39
      try clear c39b0
      try clear c40
      try clear c40b0
      try clear c41
      try clear c41b0
      try clear p41
      try clear q41
      try clear hx41
      try clear c42
      try clear c45
      try clear c48
      try clear hcz14_0
      try clear hcz14_1
      try clear hcz14_2
      try clear hcz14_3
      try clear hcz14_4
      try clear hcz14_5
      try clear hcz14_6
      try clear hcz14_7
      try clear hcz15_0
      try clear hcz15_1
      try clear hcz15_2
      try clear hcz15_3
      try clear hcz15_4
      try clear hcz15_5
      try clear hcz15_6
      try clear hcz15_7
      try clear hcz17_0
      try clear hcz17_1
      try clear hcz17_2
      try clear hcz17_3
      try clear hcz17_4
      try clear hcz17_5
      try clear hcz17_6
      try clear hcz17_7
      try clear hcz18_0
      try clear hcz18_1
      try clear hcz18_2
      try clear hcz18_3
      try clear hcz18_4
      try clear hcz18_5
      try clear hcz18_6
      try clear hcz18_7
      try clear hcz20_0
      try clear hcz20_1
      try clear hcz20_2
      try clear hcz20_3
      try clear hcz20_4
      try clear hcz20_5
      try clear hcz20_6
      try clear hcz20_7
      try clear hcz21_0
      try clear hcz21_1
      try clear hcz21_2
      try clear hcz21_3
      try clear hcz21_4
      try clear hcz21_5
      try clear hcz21_6
      try clear hcz21_7
      try clear hcz23_0
      try clear hcz23_1
      try clear hcz23_2
      try clear hcz23_3
      try clear hcz23_4
      try clear hcz23_5
      try clear hcz23_6
      try clear hcz23_7
      try clear hcz24_0
      try clear hcz24_1
      try clear hcz24_2
      try clear hcz24_3
      try clear hcz24_4
      try clear hcz24_5
      try clear hcz24_6
      try clear hcz24_7
      try clear hcz26_0
      try clear hcz26_1
      try clear hcz26_2
      try clear hcz26_3
      try clear hcz26_4
      try clear hcz26_5
      try clear hcz26_6
      try clear hcz26_7
      try clear hcz27_0
      try clear hcz27_1
      try clear hcz27_2
      try clear hcz27_3
      try clear hcz27_4
      try clear hcz27_5
      try clear hcz27_6
      try clear hcz27_7
      try clear hcz29_0
      try clear hcz29_1
      try clear hcz29_2
      try clear hcz29_3
      try clear hcz29_4
      try clear hcz29_5
      try clear hcz29_6
      try clear hcz29_7
      try clear hcz30_0
      try clear hcz30_1
      try clear hcz30_2
      try clear hcz30_3
      try clear hcz30_4
      try clear hcz30_5
      try clear hcz30_6
      try clear hcz30_7
      try clear hcz32_0
      try clear hcz32_1
      try clear hcz32_2
      try clear hcz32_3
      try clear hcz32_4
      try clear hcz32_5
      try clear hcz32_6
      try clear hcz32_7
      try clear hcz33_0
      try clear hcz33_1
      try clear hcz33_2
      try clear hcz33_3
      try clear hcz33_4
      try clear hcz33_5
      try clear hcz33_6
      try clear hcz33_7
      try clear hcz35_0
      try clear hcz35_1
      try clear hcz35_2
      try clear hcz35_3
      try clear hcz35_4
      try clear hcz35_5
      try clear hcz35_6
      try clear hcz35_7
      try clear hcz36_0
      try clear hcz36_1
      try clear hcz36_2
      try clear hcz36_3
      try clear hcz36_4
      try clear hcz36_5
      try clear hcz36_6
      try clear hcz36_7
      try clear hcz43_0
      try clear hcz43_1
      try clear hcz43_2
      try clear hcz43_3
      try clear hcz43_4
      try clear hcz43_5
      try clear hcz43_6
      try clear hcz43_7
      try clear hcz44_0
      try clear hcz44_1
      try clear hcz44_2
      try clear hcz44_3
      try clear hcz44_4
      try clear hcz44_5
      try clear hcz44_6
      try clear hcz44_7
      try clear hcz46_0
      try clear hcz46_1
      try clear hcz46_2
      try clear hcz46_3
      try clear hcz46_4
      try clear hcz46_5
      try clear hcz46_6
      try clear hcz46_7
      try clear hcz47_0
      try clear hcz47_1
      try clear hcz47_2
      try clear hcz47_3
      try clear hcz47_4
      try clear hcz47_5
      try clear hcz47_6
      try clear hcz47_7
      try clear hcz49_0
      try clear hcz49_1
      try clear hcz49_2
      try clear hcz49_3
      try clear hcz49_4
      try clear hcz49_5
      try clear hcz49_6
      try clear hcz49_7
      try clear hfz14_0
      try clear hfz14_1
      try clear hfz14_2
      try clear hfz14_3
      try clear hfz14_4
      try clear hfz14_5
      try clear hfz14_6
      try clear hfz14_7
      try clear hfz15_0
      try clear hfz15_1
      try clear hfz15_2
      try clear hfz15_3
      try clear hfz15_4
      try clear hfz15_5
      try clear hfz15_6
      try clear hfz15_7
      try clear hfz17_0
      try clear hfz17_1
      try clear hfz17_2
      try clear hfz17_3
      try clear hfz17_4
      try clear hfz17_5
      try clear hfz17_6
      try clear hfz17_7
      try clear hfz18_0
      try clear hfz18_1
      try clear hfz18_2
      try clear hfz18_3
      try clear hfz18_4
      try clear hfz18_5
      try clear hfz18_6
      try clear hfz18_7
      try clear hfz20_0
      try clear hfz20_1
      try clear hfz20_2
      try clear hfz20_3
      try clear hfz20_4
      try clear hfz20_5
      try clear hfz20_6
      try clear hfz20_7
      try clear hfz21_0
      try clear hfz21_1
      try clear hfz21_2
      try clear hfz21_3
      try clear hfz21_4
      try clear hfz21_5
      try clear hfz21_6
      try clear hfz21_7
      try clear hfz23_0
      try clear hfz23_1
      try clear hfz23_2
      try clear hfz23_3
      try clear hfz23_4
      try clear hfz23_5
      try clear hfz23_6
      try clear hfz23_7
      try clear hfz24_0
      try clear hfz24_1
      try clear hfz24_2
      try clear hfz24_3
      try clear hfz24_4
      try clear hfz24_5
      try clear hfz24_6
      try clear hfz24_7
      try clear hfz26_0
      try clear hfz26_1
      try clear hfz26_2
      try clear hfz26_3
      try clear hfz26_4
      try clear hfz26_5
      try clear hfz26_6
      try clear hfz26_7
      try clear hfz27_0
      try clear hfz27_1
      try clear hfz27_2
      try clear hfz27_3
      try clear hfz27_4
      try clear hfz27_5
      try clear hfz27_6
      try clear hfz27_7
      try clear hfz29_0
      try clear hfz29_1
      try clear hfz29_2
      try clear hfz29_3
      try clear hfz29_4
      try clear hfz29_5
      try clear hfz29_6
      try clear hfz29_7
      try clear hfz30_0
      try clear hfz30_1
      try clear hfz30_2
      try clear hfz30_3
      try clear hfz30_4
      try clear hfz30_5
      try clear hfz30_6
      try clear hfz30_7
      try clear hfz32_0
      try clear hfz32_1
      try clear hfz32_2
      try clear hfz32_3
      try clear hfz32_4
      try clear hfz32_5
      try clear hfz32_6
      try clear hfz32_7
      try clear hfz33_0
      try clear hfz33_1
      try clear hfz33_2
      try clear hfz33_3
      try clear hfz33_4
      try clear hfz33_5
      try clear hfz33_6
      try clear hfz33_7
      try clear hfz35_0
      try clear hfz35_1
      try clear hfz35_2
      try clear hfz35_3
      try clear hfz35_4
      try clear hfz35_5
      try clear hfz35_6
      try clear hfz35_7
      try clear hfz36_0
      try clear hfz36_1
      try clear hfz36_2
      try clear hfz36_3
      try clear hfz36_4
      try clear hfz36_5
      try clear hfz36_6
      try clear hfz36_7
      try clear hfz43_0
      try clear hfz43_1
      try clear hfz43_2
      try clear hfz43_3
      try clear hfz43_4
      try clear hfz43_5
      try clear hfz43_6
      try clear hfz43_7
      try clear hfz44_0
      try clear hfz44_1
      try clear hfz44_2
      try clear hfz44_3
      try clear hfz44_4
      try clear hfz44_5
      try clear hfz44_6
      try clear hfz44_7
      try clear hfz46_0
      try clear hfz46_1
      try clear hfz46_2
      try clear hfz46_3
      try clear hfz46_4
      try clear hfz46_5
      try clear hfz46_6
      try clear hfz46_7
      try clear hfz47_0
      try clear hfz47_1
      try clear hfz47_2
      try clear hfz47_3
      try clear hfz47_4
      try clear hfz47_5
      try clear hfz47_6
      try clear hfz47_7
      try clear hfz49_0
      try clear hfz49_1
      try clear hfz49_2
      try clear hfz49_3
      try clear hfz49_4
      try clear hfz49_5
      try clear hfz49_6
      try clear hfz49_7
      try clear hx416_0
      try clear hx416_1
      try clear hx417_0
      try clear hx417_1
      try clear p2
      try clear p416
      try clear p417
      try clear q416
      try clear q417
      obtain ⟨x6_3, rfl, HA, HK3, BK414, BK415, HB⟩ := hrel
      cases gk with
      | zero => exact absurd HA.out (by simp [cofferref22_SameStep.l1])
      | succ k3 =>
       have H := HA.out
       clear HA
       simp only [cofferref22_SameStep.l1] at H
       by_cases c50 : x6_3 < (l0_7.length : Int)
       rotate_left
       ·
        rw [if_neg c50] at H
        have c50b0 : decide (x6_3 < (l0_7.length : Int)) = false := decide_eq_false c50
        clear c50
        obtain rfl := Option.some.inj H
        have hnb60 := NB414_415.out
        have hnc60 := NB415_414.out
        have hcz61_0 : wr.cell? ⟨gb414, 0, none⟩ = some (.int .i64 a0_0) := (zaa BK414.out 0).trans rfl
        have hcz61_1 : wr.cell? ⟨gb414, 1, none⟩ = some (.string a0_1) := (zaa BK414.out 1).trans rfl
        have hcz61_2 : wr.cell? ⟨gb414, 2, none⟩ = some (.string a0_2) := (zaa BK414.out 2).trans rfl
        have hcz61_3 : wr.cell? ⟨gb414, 3, none⟩ = some (.string a0_3) := (zaa BK414.out 3).trans rfl
        have hcz61_4 : wr.cell? ⟨gb414, 4, none⟩ = some (.slice A0_4 l0_4.length c0_4) := (zaa BK414.out 4).trans rfl
        have hcz61_5 : wr.cell? ⟨gb414, 5, none⟩ = some (.int .i64 a0_5) := (zaa BK414.out 5).trans rfl
        have hcz61_6 : wr.cell? ⟨gb414, 6, none⟩ = some (.int .i64 a0_6) := (zaa BK414.out 6).trans rfl
        have hcz61_7 : wr.cell? ⟨gb414, 7, none⟩ = some (.slice A0_7 l0_7.length c0_7) := (zaa BK414.out 7).trans rfl
        have hfz61_0 := zab BK414.out 0
        have hfz61_1 := zab BK414.out 1
        have hfz61_2 := zab BK414.out 2
        have hfz61_3 := zab BK414.out 3
        have hfz61_4 := zab BK414.out 4
        have hfz61_5 := zab BK414.out 5
        have hfz61_6 := zab BK414.out 6
        have hfz61_7 := zab BK414.out 7
        go_wp2
        repeat (go_quiet (fail); try go_wp2)
        go_ret
        exact ⟨by first | rfl | (simp [zam, zan] <;> rfl) | (simp [*, zam, zan] <;> rfl), by repeat with_reducible first | exact HB.out | apply zae | apply zac | apply zad | refine zah ?_ GE414.out | refine zah ?_ GE415.out⟩
       rw [if_pos c50] at H
       have c50b0 : decide (x6_3 < (l0_7.length : Int)) = true := decide_eq_true c50
       clear c50
       by_cases c51 : 0 ≤ x6_3
       rotate_left
       ·
        rw [if_neg c51] at H
        exact absurd H (by simp)
       rw [if_pos c51] at H
       have c51b0 : decide (0 ≤ x6_3) = true := decide_eq_true c51
       clear c51
       by_cases c52 : x6_3 < (l1_7.length : Int)
       rotate_left
       ·
        rw [if_neg c52] at H
        exact absurd H (by simp)
       rw [if_pos c52] at H
       have c52b0 : decide (x6_3 < (l1_7.length : Int)) = true := decide_eq_true c52
       clear c52
       by_cases c53 : (rd l0_7 x6_3) = (rd l1_7 x6_3)
       rotate_left
       ·
        rw [if_neg c53] at H
        have c53b0 : ((rd l0_7 x6_3) == (rd l1_7 x6_3)) = false := beq_eq_false_iff_ne.mpr c53
        have c53b1 : ((rd l0_7 x6_3) != (rd l1_7 x6_3)) = true := bne_iff_ne.mpr c53
        obtain rfl := Option.some.inj H
        have hnb57 := NB414_415.out
        have hnc57 := NB415_414.out
        have hcz58_0 : wr.cell? ⟨gb414, 0, none⟩ = some (.int .i64 a0_0) := (zaa BK414.out 0).trans rfl
        have hcz58_1 : wr.cell? ⟨gb414, 1, none⟩ = some (.string a0_1) := (zaa BK414.out 1).trans rfl
        have hcz58_2 : wr.cell? ⟨gb414, 2, none⟩ = some (.string a0_2) := (zaa BK414.out 2).trans rfl
        have hcz58_3 : wr.cell? ⟨gb414, 3, none⟩ = some (.string a0_3) := (zaa BK414.out 3).trans rfl
        have hcz58_4 : wr.cell? ⟨gb414, 4, none⟩ = some (.slice A0_4 l0_4.length c0_4) := (zaa BK414.out 4).trans rfl
        have hcz58_5 : wr.cell? ⟨gb414, 5, none⟩ = some (.int .i64 a0_5) := (zaa BK414.out 5).trans rfl
        have hcz58_6 : wr.cell? ⟨gb414, 6, none⟩ = some (.int .i64 a0_6) := (zaa BK414.out 6).trans rfl
        have hcz58_7 : wr.cell? ⟨gb414, 7, none⟩ = some (.slice A0_7 l0_7.length c0_7) := (zaa BK414.out 7).trans rfl
        have hfz58_0 := zab BK414.out 0
        have hfz58_1 := zab BK414.out 1
        have hfz58_2 := zab BK414.out 2
        have hfz58_3 := zab BK414.out 3
        have hfz58_4 := zab BK414.out 4
        have hfz58_5 := zab BK414.out 5
        have hfz58_6 := zab BK414.out 6
        have hfz58_7 := zab BK414.out 7
        have p418 : 0 ≤ (x6_3 : Int) := of_decide_eq_true (by first | (with_reducible assumption) | assumption)
        have q418 : x6_3 < (l0_7.length : Int) := of_decide_eq_true (by first | (with_reducible assumption) | assumption)
        obtain ⟨ad418, e418, hx418_0⟩ := Kd.at_int HR0_7.out x6_3 p418 q418
        cases e418
        replace hx418_0 := co HB.out hx418_0
        replace p418 := eq_true p418
        replace q418 := eq_true q418
        have hcz59_0 : wr.cell? ⟨gb415, 0, none⟩ = some (.int .i64 a1_0) := (zaa BK415.out 0).trans rfl
        have hcz59_1 : wr.cell? ⟨gb415, 1, none⟩ = some (.string a1_1) := (zaa BK415.out 1).trans rfl
        have hcz59_2 : wr.cell? ⟨gb415, 2, none⟩ = some (.string a1_2) := (zaa BK415.out 2).trans rfl
        have hcz59_3 : wr.cell? ⟨gb415, 3, none⟩ = some (.string a1_3) := (zaa BK415.out 3).trans rfl
        have hcz59_4 : wr.cell? ⟨gb415, 4, none⟩ = some (.slice A1_4 l1_4.length c1_4) := (zaa BK415.out 4).trans rfl
        have hcz59_5 : wr.cell? ⟨gb415, 5, none⟩ = some (.int .i64 a1_5) := (zaa BK415.out 5).trans rfl
        have hcz59_6 : wr.cell? ⟨gb415, 6, none⟩ = some (.int .i64 a1_6) := (zaa BK415.out 6).trans rfl
        have hcz59_7 : wr.cell? ⟨gb415, 7, none⟩ = some (.slice A1_7 l1_7.length c1_7) := (zaa BK415.out 7).trans rfl
        have hfz59_0 := zab BK415.out 0
        have hfz59_1 := zab BK415.out 1
        have hfz59_2 := zab BK415.out 2
        have hfz59_3 := zab BK415.out 3
        have hfz59_4 := zab BK415.out 4
        have hfz59_5 := zab BK415.out 5
        have hfz59_6 := zab BK415.out 6
        have hfz59_7 := zab BK415.out 7
        have p419 : 0 ≤ (x6_3 : Int) := of_decide_eq_true (by first | (with_reducible assumption) | assumption)
        have q419 : x6_3 < (l1_7.length : Int) := of_decide_eq_true (by first | (with_reducible assumption) | assumption)
        obtain ⟨ad419, e419, hx419_0⟩ := Kd.at_int HR1_7.out x6_3 p419 q419
        cases e419
        replace hx419_0 := co HB.out hx419_0
        replace p419 := eq_true p419
        replace q419 := eq_true q419
        go_wp2
        repeat (go_quiet (fail); try go_wp2)
        go_ret
        exact ⟨by first | rfl | (simp [zam, zan] <;> rfl) | (simp [*, zam, zan] <;> rfl), by repeat with_reducible first | exact HB.out | apply zae | apply zac | apply zad | refine zah ?_ GE414.out | refine zah ?_ GE415.out⟩
       rw [if_pos c53] at H
       have c53b0 : ((rd l0_7 x6_3) == (rd l1_7 x6_3)) = true := beq_iff_eq.mpr c53
       have c53b1 : ((rd l0_7 x6_3) != (rd l1_7 x6_3)) = false := bne_eq_false_iff_eq.mpr c53
       clear c53
       have H' := Aside0.mk H
       clear H
       have hnb54 := NB414_415.out
       have hnc54 := NB415_414.out
       have hcz55_0 : wr.cell? ⟨gb414, 0, none⟩ = some (.int .i64 a0_0) := (zaa BK414.out 0).trans rfl
       have hcz55_1 : wr.cell? ⟨gb414, 1, none⟩ = some (.string a0_1) := (zaa BK414.out 1).trans rfl
       have hcz55_2 : wr.cell? ⟨gb414, 2, none⟩ = some (.string a0_2) := (zaa BK414.out 2).trans rfl
       have hcz55_3 : wr.cell? ⟨gb414, 3, none⟩ = some (.string a0_3) := (zaa BK414.out 3).trans rfl
       have hcz55_4 : wr.cell? ⟨gb414, 4, none⟩ = some (.slice A0_4 l0_4.length c0_4) := (zaa BK414.out 4).trans rfl
       have hcz55_5 : wr.cell? ⟨gb414, 5, none⟩ = some (.int .i64 a0_5) := (zaa BK414.out 5).trans rfl
       have hcz55_6 : wr.cell? ⟨gb414, 6, none⟩ = some (.int .i64 a0_6) := (zaa BK414.out 6).trans rfl
       have hcz55_7 : wr.cell? ⟨gb414, 7, none⟩ = some (.slice A0_7 l0_7.length c0_7) := (zaa BK414.out 7).trans rfl
       have hfz55_0 := zab BK414.out 0
       have hfz55_1 := zab BK414.out 1
       have hfz55_2 := zab BK414.out 2
       have hfz55_3 := zab BK414.out 3
       have hfz55_4 := zab BK414.out 4
       have hfz55_5 := zab BK414.out 5
       have hfz55_6 := zab BK414.out 6
       have hfz55_7 := zab BK414.out 7
       have p418 : 0 ≤ (x6_3 : Int) := of_decide_eq_true (by first | (with_reducible assumption) | assumption)
       have q418 : x6_3 < (l0_7.length : Int) := of_decide_eq_true (by first | (with_reducible assumption) | assumption)
       obtain ⟨ad418, e418, hx418_0⟩ := Kd.at_int HR0_7.out x6_3 p418 q418
       cases e418
       replace hx418_0 := co HB.out hx418_0
       replace p418 := eq_true p418
       replace q418 := eq_true q418
       have hcz56_0 : wr.cell? ⟨gb415, 0, none⟩ = some (.int .i64 a1_0) := (zaa BK415.out 0).trans rfl
       have hcz56_1 : wr.cell? ⟨gb415, 1, none⟩ = some (.string a1_1) := (zaa BK415.out 1).trans rfl
       have hcz56_2 : wr.cell? ⟨gb415, 2, none⟩ = some (.string a1_2) := (zaa BK415.out 2).trans rfl
       have hcz56_3 : wr.cell? ⟨gb415, 3, none⟩ = some (.string a1_3) := (zaa BK415.out 3).trans rfl
       have hcz56_4 : wr.cell? ⟨gb415, 4, none⟩ = some (.slice A1_4 l1_4.length c1_4) := (zaa BK415.out 4).trans rfl
       have hcz56_5 : wr.cell? ⟨gb415, 5, none⟩ = some (.int .i64 a1_5) := (zaa BK415.out 5).trans rfl
       have hcz56_6 : wr.cell? ⟨gb415, 6, none⟩ = some (.int .i64 a1_6) := (zaa BK415.out 6).trans rfl
       have hcz56_7 : wr.cell? ⟨gb415, 7, none⟩ = some (.slice A1_7 l1_7.length c1_7) := (zaa BK415.out 7).trans rfl
       have hfz56_0 := zab BK415.out 0
       have hfz56_1 := zab BK415.out 1
       have hfz56_2 := zab BK415.out 2
       have hfz56_3 := zab BK415.out 3
       have hfz56_4 := zab BK415.out 4
       have hfz56_5 := zab BK415.out 5
       have hfz56_6 := zab BK415.out 6
       have hfz56_7 := zab BK415.out 7
       have p419 : 0 ≤ (x6_3 : Int) := of_decide_eq_true (by first | (with_reducible assumption) | assumption)
       have q419 : x6_3 < (l1_7.length : Int) := of_decide_eq_true (by first | (with_reducible assumption) | assumption)
       obtain ⟨ad419, e419, hx419_0⟩ := Kd.at_int HR1_7.out x6_3 p419 q419
       cases e419
       replace hx419_0 := co HB.out hx419_0
       replace p419 := eq_true p419
       replace q419 := eq_true q419
       go_wp2
       repeat (go_quiet (fail); try go_wp2)
       go_roundg k3
       case measure => have := HJ2.out; have := HK2.out; have := HK3.out; omega
       case rel => exact ⟨(wrap64 (x6_3 + 1)), (by first | rfl | (simp; done) | (simp [*]; done)), H', ⟨by have := HJ2.out; have := HK2.out; have := HK3.out; omega⟩, ⟨by (with_reducible repeat (first | refine zai ?_ _ | refine zaj ?_ | refine zag ?_ _)); exact BK414.out⟩, ⟨by (with_reducible repeat (first | refine zai ?_ _ | refine zaj ?_ | refine zag ?_ _)); exact BK415.out⟩, ⟨by repeat with_reducible first | exact HB.out | apply zae | apply zac | apply zad | refine zah ?_ GE414.out | refine zah ?_ GE415.out⟩⟩

end Go.Proofs.YtdmlgligljagoaaDoor.PS

set_option linter.unusedVariables false
set_option linter.unusedSimpArgs false
namespace Go.Proofs.YtdmlgligljagoaaDoor
open Go.RowKit Go.Proofs.YtdmlgligljagoaaDoorW.PrintWords PS

instance : DecidableEq S38 := fun a b => decidable_of_iff (a.f0 = b.f0 ∧ a.f1 = b.f1) ⟨fun h => by obtain ⟨a0, a1⟩ := a; obtain ⟨b0, b1⟩ := b; obtain ⟨h0, h1⟩ := h; subst h0 h1; rfl, fun h => by subst h; exact ⟨rfl, rfl⟩⟩
instance : DecidableEq S55 := fun a b => decidable_of_iff (a.f0 = b.f0 ∧ a.f1 = b.f1 ∧ a.f2 = b.f2 ∧ a.f3 = b.f3 ∧ a.f4 = b.f4 ∧ a.f5 = b.f5 ∧ a.f6 = b.f6 ∧ a.f7 = b.f7) ⟨fun h => by
  obtain ⟨a0, a1, a2, a3, a4, a5, a6, a7⟩ := a; obtain ⟨b0, b1, b2, b3, b4, b5, b6, b7⟩ := b; obtain ⟨h0, h1, h2, h3, h4, h5, h6, h7⟩ := h; dsimp only at h0 h1 h2 h3 h4 h5 h6 h7; subst h0 h1 h2 h3 h4 h5 h6 h7; rfl, fun h => by subst h; exact ⟨rfl, rfl, rfl, rfl, rfl, rfl, rfl, rfl⟩⟩
instance : DecidableEq S57 := fun a b => decidable_of_iff (a.f0 = b.f0 ∧ a.f1 = b.f1 ∧ a.f2 = b.f2 ∧ a.f3 = b.f3 ∧ a.f4 = b.f4) ⟨fun h => by
  obtain ⟨a0, a1, a2, a3, a4⟩ := a; obtain ⟨b0, b1, b2, b3, b4⟩ := b; obtain ⟨h0, h1, h2, h3, h4⟩ := h; dsimp only at h0 h1 h2 h3 h4; subst h0 h1 h2 h3 h4; rfl, fun h => by subst h; exact ⟨rfl, rfl, rfl, rfl, rfl⟩⟩
theorem toL_inj {a b : ByteArray} (h : a.toList = b.toList) : a = b := by
  rw [Lib.toList_data, Lib.toList_data] at h
  rw [bs_of a, bs_of b, h]
theorem toL_iff (a b : ByteArray) : a.toList = b.toList ↔ a = b := ⟨toL_inj, fun h => by rw [h]⟩
theorem rd_get (l : List Int) (i : Nat) (h : i < l.length) : rd l (i : Int) = l[i]'h := by unfold rd; simp [h]
theorem rdP_get (l : List S38) (i : Nat) (h : i < l.length) : rd_T38 l (i : Int) = l[i]'h := by unfold rd_T38; simp [h]
theorem drop_eq {α : Type} {l m : List α} {i : Nat} (hl : i < l.length) (hm : i < m.length) (d : α) : (l.drop i = m.drop i) ↔ (l[i] = m[i] ∧ l.drop (i + 1) = m.drop (i + 1)) := by
  rw [List.drop_eq_getElem_cons hl, List.drop_eq_getElem_cons hm, List.cons.injEq]
theorem w64s {n : Nat} (h : n + 1 ≤ 9223372036854775807) : wrap64 ((n : Int) + 1) = ((n + 1 : Nat) : Int) := by unfold wrap64; omega
theorem keptS_go (a b : S55) (he : a.f7.length = b.f7.length) (hb : a.f7.length ≤ 4611686018427387904) : ∀ d i, i + d = a.f7.length →
    Ev (fun k => cofferref22_SameStep.l1 k (i : Int) a.f0 a.f1 a.f2 a.f3 a.f4 a.f5 a.f6 a.f7 b.f0 b.f1 b.f2 b.f3 b.f4 b.f5 b.f6 b.f7) (decide (a.f7.drop i = b.f7.drop i)) := by
  intro d
  induction d with
  | zero =>
    intro i hi
    refine Ev.step (f := fun _ => some _) (fun k => ?_) (Ev.now _)
    rw [cofferref22_SameStep.l1, if_neg (by omega), List.drop_of_length_le (by omega), List.drop_of_length_le (by omega)]
    rfl
  | succ d ih =>
    intro i hi
    have h1 : i < a.f7.length := by omega
    have h2 : i < b.f7.length := by omega
    have hr1 := rd_get a.f7 i h1
    have hr2 := rd_get b.f7 i h2
    by_cases hq : a.f7[i] = b.f7[i]
    · rw [decide_eq_decide.2 ((drop_eq h1 h2 0).trans ⟨fun h => h.2, fun h => ⟨hq, h⟩⟩)]
      refine Ev.step (fun k => ?_) (ih (i + 1) (by omega))
      rw [cofferref22_SameStep.l1, if_pos (by omega), if_pos (by omega), if_pos (by omega), hr1, hr2, if_pos hq, w64s (by omega)]
    · rw [decide_eq_false (fun h => hq ((drop_eq h1 h2 0).1 h).1)]
      refine Ev.step (f := fun _ => some _) (fun k => ?_) (Ev.now _)
      rw [cofferref22_SameStep.l1, if_pos (by omega), if_pos (by omega), if_pos (by omega), hr1, hr2, if_neg hq]
theorem pairB (p q : S38) : (!((p.f0.toList) == (q.f0.toList)) || (!((p.f1.toList) == (q.f1.toList)))) = !decide (p = q) := by
  by_cases h : p = q
  · subst h; simp
  · rw [decide_eq_false h]
    simp only [Bool.not_false, Bool.or_eq_true, Bool.not_eq_true', beq_eq_false_iff_ne, ne_eq]
    by_cases h0 : p.f0 = q.f0
    · refine .inr (fun h1 => h ?_)
      obtain ⟨p0, p1⟩ := p; obtain ⟨q0, q1⟩ := q
      have := toL_inj h1
      dsimp only at h0 this
      subst h0 this; rfl
    · exact .inl (fun e => h0 (toL_inj e))
theorem metaS_go (a b : S55) (h4 : a.f4.length = b.f4.length) (he : a.f7.length = b.f7.length) (hb : a.f7.length ≤ 4611686018427387904) (hb4 : a.f4.length ≤ 4611686018427387904) : ∀ d i, i + d = a.f4.length →
    Ev (fun k => cofferref22_SameStep.l0 k (i : Int) a.f0 a.f1 a.f2 a.f3 a.f4 a.f5 a.f6 a.f7 b.f0 b.f1 b.f2 b.f3 b.f4 b.f5 b.f6 b.f7) (decide (a.f4.drop i = b.f4.drop i) && decide (a.f7 = b.f7)) := by
  intro d
  induction d with
  | zero =>
    intro i hi
    rw [List.drop_of_length_le (by omega), List.drop_of_length_le (by omega), decide_eq_true rfl, Bool.true_and]
    have := keptS_go a b he hb a.f7.length 0 (by omega)
    rw [List.drop_zero, List.drop_zero] at this
    refine Ev.step (fun k => ?_) this
    rw [cofferref22_SameStep.l0, if_neg (by omega)]
    rfl
  | succ d ih =>
    intro i hi
    have h1 : i < a.f4.length := by omega
    have h2 : i < b.f4.length := by omega
    have hr1 := rdP_get a.f4 i h1
    have hr2 := rdP_get b.f4 i h2
    by_cases hq : a.f4[i] = b.f4[i]
    · rw [decide_eq_decide.2 ((drop_eq h1 h2 z38).trans ⟨fun h => h.2, fun h => ⟨hq, h⟩⟩)]
      refine Ev.step (fun k => ?_) (ih (i + 1) (by omega))
      rw [cofferref22_SameStep.l0, if_pos (by omega), if_pos (by omega), if_pos (by omega), hr1, hr2, pairB, decide_eq_true hq, if_neg (by simp), w64s (by omega)]
    · rw [decide_eq_false (fun h => hq ((drop_eq h1 h2 z38).1 h).1), Bool.false_and]
      refine Ev.step (f := fun _ => some _) (fun k => ?_) (Ev.now _)
      rw [cofferref22_SameStep.l0, if_pos (by omega), if_pos (by omega), if_pos (by omega), hr1, hr2, pairB, decide_eq_false hq, if_pos (by simp)]
theorem sameStep_is (a b : S55) (hb : a.f7.length ≤ 4611686018427387904) (hb4 : a.f4.length ≤ 4611686018427387904) : ∃ k, cofferref22_SameStep.f k a.f0 a.f1 a.f2 a.f3 a.f4 a.f5 a.f6 a.f7 b.f0 b.f1 b.f2 b.f3 b.f4 b.f5 b.f6 b.f7 = some (decide (a = b)) := by
  have hj : ∀ x, a ≠ b → x = true → Ev (fun k => cofferref22_SameStep.j0 k x a.f0 a.f1 a.f2 a.f3 a.f4 a.f5 a.f6 a.f7 b.f0 b.f1 b.f2 b.f3 b.f4 b.f5 b.f6 b.f7) (decide (a = b)) := fun x hn hx => by
    rw [decide_eq_false hn]
    exact Ev.step (f := fun _ => some _) (fun k => by rw [cofferref22_SameStep.j0, if_pos hx]) (Ev.now _)
  refine Ev.rounds (g := fun k => cofferref22_SameStep.f k a.f0 a.f1 a.f2 a.f3 a.f4 a.f5 a.f6 a.f7 b.f0 b.f1 b.f2 b.f3 b.f4 b.f5 b.f6 b.f7) ?_
  by_cases c0 : a.f0 = b.f0
  · by_cases c1 : a.f1 = b.f1
    · by_cases c2 : a.f2 = b.f2
      · by_cases c3 : a.f3 = b.f3
        · by_cases c5 : a.f5 = b.f5
          · by_cases c6 : a.f6 = b.f6
            · by_cases c4 : a.f4.length = b.f4.length
              · by_cases c7 : a.f7.length = b.f7.length
                · have h := metaS_go a b c4 c7 hb hb4 a.f4.length 0 (by omega)
                  rw [List.drop_zero, List.drop_zero] at h
                  have e : (decide (a.f4 = b.f4) && decide (a.f7 = b.f7)) = decide (a = b) := by
                    rw [← Bool.decide_and]
                    exact decide_eq_decide.2 ⟨fun ⟨h4, h7⟩ => by
                      obtain ⟨a0, a1, a2, a3, a4, a5, a6, a7⟩ := a; obtain ⟨b0, b1, b2, b3, b4, b5, b6, b7⟩ := b
                      dsimp only at c0 c1 c2 c3 c5 c6 h4 h7
                      subst c0 c1 c2 c3 c5 c6 h4 h7; rfl, fun h => by subst h; exact ⟨rfl, rfl⟩⟩
                  rw [e] at h
                  refine Ev.congr (fun k => ?_) (Ev.step (g := fun k => cofferref22_SameStep.j0 k false a.f0 a.f1 a.f2 a.f3 a.f4 a.f5 a.f6 a.f7 b.f0 b.f1 b.f2 b.f3 b.f4 b.f5 b.f6 b.f7) (fun k => ?_) h)
                  · unfold cofferref22_SameStep.f
                    rw [if_pos c0, if_pos ((toL_iff _ _).2 c1), if_pos ((toL_iff _ _).2 c2), if_pos ((toL_iff _ _).2 c3), if_pos c5, if_pos c6, if_pos (by omega), show ((a.f7.length : Int) != (b.f7.length : Int)) = false from by rw [c7]; simp]
                  · rw [cofferref22_SameStep.j0, if_neg (by simp)]; rfl
                · refine Ev.congr (fun k => ?_) (hj true (fun e => c7 (by rw [e])) rfl)
                  unfold cofferref22_SameStep.f
                  rw [if_pos c0, if_pos ((toL_iff _ _).2 c1), if_pos ((toL_iff _ _).2 c2), if_pos ((toL_iff _ _).2 c3), if_pos c5, if_pos c6, if_pos (by omega), show ((a.f7.length : Int) != (b.f7.length : Int)) = true from by rw [bne_iff_ne]; omega]
              · refine Ev.congr (fun k => ?_) (hj true (fun e => c4 (by rw [e])) rfl)
                unfold cofferref22_SameStep.f
                rw [if_pos c0, if_pos ((toL_iff _ _).2 c1), if_pos ((toL_iff _ _).2 c2), if_pos ((toL_iff _ _).2 c3), if_pos c5, if_pos c6, if_neg (by omega)]
            · refine Ev.congr (fun k => ?_) (hj true (fun e => c6 (by rw [e])) rfl)
              unfold cofferref22_SameStep.f
              rw [if_pos c0, if_pos ((toL_iff _ _).2 c1), if_pos ((toL_iff _ _).2 c2), if_pos ((toL_iff _ _).2 c3), if_pos c5, if_neg c6]
          · refine Ev.congr (fun k => ?_) (hj true (fun e => c5 (by rw [e])) rfl)
            unfold cofferref22_SameStep.f
            rw [if_pos c0, if_pos ((toL_iff _ _).2 c1), if_pos ((toL_iff _ _).2 c2), if_pos ((toL_iff _ _).2 c3), if_neg c5]
        · refine Ev.congr (fun k => ?_) (hj true (fun e => c3 (by rw [e])) rfl)
          unfold cofferref22_SameStep.f
          rw [if_pos c0, if_pos ((toL_iff _ _).2 c1), if_pos ((toL_iff _ _).2 c2), if_neg (fun e => c3 (toL_inj e))]
      · refine Ev.congr (fun k => ?_) (hj true (fun e => c2 (by rw [e])) rfl)
        unfold cofferref22_SameStep.f
        rw [if_pos c0, if_pos ((toL_iff _ _).2 c1), if_neg (fun e => c2 (toL_inj e))]
    · refine Ev.congr (fun k => ?_) (hj true (fun e => c1 (by rw [e])) rfl)
      unfold cofferref22_SameStep.f
      rw [if_pos c0, if_neg (fun e => c1 (toL_inj e))]
  · refine Ev.congr (fun k => ?_) (hj true (fun e => c0 (by rw [e])) rfl)
    unfold cofferref22_SameStep.f
    rw [if_neg c0]
theorem takeS {l m : List S57} {k : Nat} (h : l.take k = m.take k) (hl : k < l.length) (hm : k < m.length) (e : l[k] = m[k]) : l.take (k + 1) = m.take (k + 1) := by
  rw [List.take_succ_eq_append_getElem hl, List.take_succ_eq_append_getElem hm, h, e]
theorem rdC_get (l : List S57) (i : Nat) (h : i < l.length) : rd_T57 l (i : Int) = l[i]'h := by unfold rd_T57; simp [h]
set_option maxRecDepth 100000 in
set_option maxHeartbeats 4000000 in
theorem sameC_any (l m : List S57) (A B : Option Addr) (c d : Nat) (w : World) (hC : Kd.C k57 w A l.length l) (hD : Kd.C k57 w B m.length m) (hc : l.length ≤ c) (hd : m.length ≤ d)
    (hs : ∀ x ∈ l, x.f3.f7.length ≤ 4611686018427387904 ∧ x.f3.f4.length ≤ 4611686018427387904) :
    Calls Tryd.prog 19 #[.slice A l.length c, .slice B m.length d] w fun e w' => e = .returned (.bool (decide (l = m))) ∧ Below w.heap.size w w' := by
  have HC := Lib.hid hC
  have HD := Lib.hid hD
  have HS := Lib.hid hs
  have hml := hC.2.1
  have hml2 := hD.2.1
  clear hC hD hs
  by_cases hl : l.length = m.length
  · have b1 : ((l.length : Int) == (m.length : Int)) = true := by simp [hl]
    have HL := Lib.hid hl
    clear hl
    have b2 : (l.length == m.length) = true := by rw [HL.out]; simp
    have b3 : ((l.length : Int) != (m.length : Int)) = false := by rw [HL.out]; simp
    go_enter Tryd.func19, Tryd.ntmps19
    go_wp2
    go_loopw [5] (fun i wr => ∃ k : Nat, k ≤ l.length ∧ i = .int .i64 k ∧ Hid (l.take k = m.take k) ∧ Below w.heap.size w wr) (fun i _ => l.length - (intOf i).toNat)
    case atStart => exact ⟨0, Nat.zero_le _, rfl, rfl, Below.refl _ _⟩
    case round =>
      obtain ⟨k, hk, rfl, HM, hb⟩ := hrel
      by_cases hlt : k < l.length
      · have hlt2 : k < m.length := by have := HL.out; omega
        obtain ⟨ad, A7, c7, A10, c10, hA, a0, a1, a2, a3, a4, a5, a6, a7, a8, a9, a10, a11, l7, r7, l10, r10⟩ := at_T57 (Kd.C_below HC.out hb) (k : Int) (by omega) (by omega)
        obtain ⟨bd, B7, d7, B10, d10, hB, e0, e1, e2, e3, e4, e5, e6, e7, e8, e9, e10, e11, m7, s7, m10, s10⟩ := at_T57 (Kd.C_below HD.out hb) (k : Int) (by omega) (by omega)
        have hr1 := rdC_get l k hlt
        have hr2 := rdC_get m k hlt2
        have hmiss : l[k] ≠ m[k] → decide (l = m) = false := fun h => decide_eq_false (fun e => h (by simp only [e]))
        have hstep := fun e => takeS HM.out hlt hlt2 e
        have hz := HS.out _ (List.getElem_mem hlt)
        rw [Int.toNat_natCast, hr1] at a0 a1 a2 a3 a4 a5 a6 a7 a8 a9 a10 a11
        rw [Int.toNat_natCast, hr2] at e0 e1 e2 e3 e4 e5 e6 e7 e8 e9 e10 e11
        rw [hr1] at l7 r7 l10 r10
        rw [hr2] at m7 s7 m10 s10
        clear hr1 hr2
        generalize l[k] = x at *
        generalize m[k] = y at *
        obtain ⟨kq, hkq⟩ := sameStep_is x.f3 y.f3 hz.1 hz.2
        have HQ := fun W (hbw : Below wr.heap.size wr W) => Lib.hid (cofferref22_SameStep.calls kq x.f3.f0 x.f3.f1 x.f3.f2 x.f3.f3 A7 c7 x.f3.f4 x.f3.f5 x.f3.f6 A10 c10 x.f3.f7 y.f3.f0 y.f3.f1 y.f3.f2 y.f3.f3 B7 d7 y.f3.f4 y.f3.f5 y.f3.f6 B10 d10 y.f3.f7 (decide (x.f3 = y.f3)) W (Kd.C_below r7 hbw) l7 (Kd.C_below r10 hbw) l10 (Kd.C_below s7 hbw) m7 (Kd.C_below s10 hbw) m10 hkq)
        have HMI := Lib.hid hmiss
        have HST := Lib.hid hstep
        clear hmiss hstep hz hkq r7 r10 s7 s10
        subst hA hB
        by_cases q0 : x.f0 = y.f0
        · have t0 : (x.f0 == y.f0) = true := by rw [q0]; simp
          have u0 : (x.f0 != y.f0) = false := by rw [q0]; simp
          have Q0 := Lib.hid q0
          clear q0
          by_cases q1 : x.f1 = y.f1
          · have t1 : (x.f1 == y.f1) = true := by rw [q1]; simp
            have u1 : (x.f1 != y.f1) = false := by rw [q1]; simp
            have Q1 := Lib.hid q1
            clear q1
            by_cases q2 : x.f2 = y.f2
            · have t2 : (x.f2 == y.f2) = true := by rw [q2]; simp
              have u2 : (x.f2 != y.f2) = false := by rw [q2]; simp
              have Q2 := Lib.hid q2
              clear q2
              by_cases q4 : x.f4 = y.f4
              · have t4 : (x.f4.toList == y.f4.toList) = true := by rw [q4]; simp
                have u4 : (x.f4.toList != y.f4.toList) = false := by rw [q4]; simp
                have Q4 := Lib.hid q4
                clear q4
                by_cases q3 : x.f3 = y.f3
                · have HB : Hid (l.take (k + 1) = m.take (k + 1)) := HST.out (by
                    obtain ⟨x0, x1, x2, x3, x4⟩ := x; obtain ⟨y0, y1, y2, y3, y4⟩ := y
                    have z0 := Q0.out; have z1 := Q1.out; have z2 := Q2.out; have z4 := Q4.out
                    dsimp only at z0 z1 z2 z4 q3
                    subst z0 z1 z2 z4 q3; rfl)
                  rw [decide_eq_true q3] at HQ
                  clear q3
                  go_wp2
                  go_still_tail 61, (by kernel_rfl)
                  go_wp2_with (go_at_call 33; refine (HQ _ (below_drewN (Below.refl _ _) 1)).out.mono ?_; rintro e w' ⟨rfl, hb2⟩)
                  go_roundw
                  case rel => exact ⟨k + 1, by omega, by go_num, HB, (below_drewN hb 1).trans (hb2.mono hb.size)⟩
                  case measure => simp [intOf]; omega
                · have HB : Hid (decide (l = m) = false) := HMI.out (fun e => q3 (by rw [e]))
                  rw [decide_eq_false q3] at HQ
                  clear q3
                  go_wp2
                  go_still_tail 61, (by kernel_rfl)
                  go_wp2_with (go_at_call 33; refine (HQ _ (below_drewN (Below.refl _ _) 1)).out.mono ?_; rintro e w' ⟨rfl, hb2⟩)
                  go_ret
                  exact ⟨ret_bool HB.out.symm, (below_drewN hb 1).trans (hb2.mono hb.size)⟩
              · have t4 : (x.f4.toList == y.f4.toList) = false := by rw [beq_eq_false_iff_ne]; exact fun e => q4 (toL_inj e)
                have u4 : (x.f4.toList != y.f4.toList) = true := by rw [bne, t4]; rfl
                have HB : Hid (decide (l = m) = false) := HMI.out (fun e => q4 (by rw [e]))
                clear q4 HQ
                go_wp2
                go_quiet (fail)
                go_wp2
                go_ret
                exact ⟨ret_bool HB.out.symm, below_drewN hb _⟩
            · have t2 : (x.f2 == y.f2) = false := by rw [beq_eq_false_iff_ne]; exact q2
              have u2 : (x.f2 != y.f2) = true := by rw [bne, t2]; rfl
              have HB : Hid (decide (l = m) = false) := HMI.out (fun e => q2 (by rw [e]))
              clear q2 HQ
              go_wp2
              go_quiet (fail)
              go_wp2
              go_ret
              exact ⟨ret_bool HB.out.symm, below_drewN hb _⟩
          · have t1 : (x.f1 == y.f1) = false := by rw [beq_eq_false_iff_ne]; exact q1
            have u1 : (x.f1 != y.f1) = true := by rw [bne, t1]; rfl
            have HB : Hid (decide (l = m) = false) := HMI.out (fun e => q1 (by rw [e]))
            clear q1 HQ
            go_wp2
            go_quiet (fail)
            go_wp2
            go_ret
            exact ⟨ret_bool HB.out.symm, below_drewN hb _⟩
        · have t0 : (x.f0 == y.f0) = false := by rw [beq_eq_false_iff_ne]; exact q0
          have u0 : (x.f0 != y.f0) = true := by rw [bne, t0]; rfl
          have HB : Hid (decide (l = m) = false) := HMI.out (fun e => q0 (by rw [e]))
          clear q0 HQ
          go_wp2
          go_quiet (fail)
          go_wp2
          go_ret
          exact ⟨ret_bool HB.out.symm, below_drewN hb _⟩
      · obtain rfl : k = l.length := by omega
        have h0 := HM.out
        rw [List.take_length, HL.out, List.take_length] at h0
        have HB : Hid (decide (l = m) = true) := decide_eq_true h0
        clear h0
        go_wp2
        go_ret
        exact ⟨ret_bool HB.out.symm, hb⟩
  · have b1 : ((l.length : Int) == (m.length : Int)) = false := beq_eq_false_iff_ne.2 (by omega)
    have b2 : (l.length == m.length) = false := beq_eq_false_iff_ne.2 hl
    have b3 : ((l.length : Int) != (m.length : Int)) = true := by rw [bne, b1]; rfl
    have HB : Hid (decide (l = m) = false) := decide_eq_false (fun e => hl (by rw [e]))
    go_enter Tryd.func19, Tryd.ntmps19
    go_wp2
    go_ret
    exact ⟨ret_bool HB.out.symm, Below.refl _ _⟩
namespace PS
end PS
end Go.Proofs.YtdmlgligljagoaaDoor
