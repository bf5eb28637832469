/- The law ScriptPrints of this seat: coffer/cofferlaw22.ScriptPrints returns true for every input whose bulk is at most 1048576 (the narrowed form), and its arguments read as they did. The package-level tables are as the row lists them.
The machine side of some functions, printed for this claim: each function has the answers of a plain one.
Plain law: the document's Print and Quote answer as the program's do.
Plain law: the document's lines: is a text too long?
Plain law: a step cleared as the document says it; and a row of commands of the call's own whose lists are others'.
Walk: the document's Cleared: the commands with all that their kinds don't name zero.
Walk: the document's Print, by contracts.
Walk: the law that every Print and Quote is the document's, that what is handed in stays, and that what is written over is printed as it is then. -/
import Derived.Test.YtdmlgligljagoaaDoorCards
import Derived.Test.YtdmlgligljagoaaDoorTie
import Derived.Test.YtdmlgligljagoaaDoorQR5
namespace Go.Proofs.YtdmlgligljagoaaDoor.PS
open Go.RowKit Go.Proofs.YtdmlgligljagoaaDoorW.PrintWords Go.Proofs.YtdmlgligljagoaaDoorW.PrintLast Go.Proofs.YtdmlgligljagoaaDoorW.PrintMore
attribute [local go_sem] zbg zbh max_two min_two zbe zbf zbi zbj   -- for this text's walks alone
set_option linter.unusedVariables false
set_option linter.unusedSimpArgs false

/-! ### cofferref22_step: function 28 -/
mutual
def cofferref22_step.l0 : Nat → ByteArray → ByteArray → Int → Int → ByteArray → ByteArray → ByteArray → List (S38) → Int → Int → List Int → Option (ByteArray)
 | 0, _, _, _, _, _, _, _, _, _, _, _ => none
 | k + 1, x3, x4, x5, x450000, x450001, x450002, x450003, x450004, x450005, x450006, x450007 => if x5 < (x4.size : Int) then (if 0 ≤ x5 then (if (bt x4 x5) = 98 then (if x3.size + 1 ≤ 9223372036854775807 then ((cofferref22_Quote.f k x450001).bind fun t452 => (if (x3 ++ (⟨#[32]⟩ : ByteArray)).size + t452.size ≤ 9223372036854775807 then (cofferref22_step.l0 k ((x3 ++ (⟨#[32]⟩ : ByteArray)) ++ t452) x4 (wrap64 (x5 + 1)) x450000 x450001 x450002 x450003 x450004 x450005 x450006 x450007) else (none))) else (none)) else (if (bt x4 x5) = 107 then (if x3.size + 1 ≤ 9223372036854775807 then ((cofferref22_Quote.f k x450002).bind fun t453 => (if (x3 ++ (⟨#[32]⟩ : ByteArray)).size + t453.size ≤ 9223372036854775807 then (cofferref22_step.l0 k ((x3 ++ (⟨#[32]⟩ : ByteArray)) ++ t453) x4 (wrap64 (x5 + 1)) x450000 x450001 x450002 x450003 x450004 x450005 x450006 x450007) else (none))) else (none)) else (if (bt x4 x5) = 100 then (if x3.size + 1 ≤ 9223372036854775807 then ((cofferref22_Quote.f k x450003).bind fun t454 => (if (x3 ++ (⟨#[32]⟩ : ByteArray)).size + t454.size ≤ 9223372036854775807 then (cofferref22_step.l0 k ((x3 ++ (⟨#[32]⟩ : ByteArray)) ++ t454) x4 (wrap64 (x5 + 1)) x450000 x450001 x450002 x450003 x450004 x450005 x450006 x450007) else (none))) else (none)) else (if (bt x4 x5) = 115 then (if x3.size + 1 ≤ 9223372036854775807 then ((strconv_FormatInt.f x450005 10).bind fun t455 => (if (x3 ++ (⟨#[32]⟩ : ByteArray)).size + t455.size ≤ 9223372036854775807 then (cofferref22_step.l0 k ((x3 ++ (⟨#[32]⟩ : ByteArray)) ++ t455) x4 (wrap64 (x5 + 1)) x450000 x450001 x450002 x450003 x450004 x450005 x450006 x450007) else (none))) else (none)) else (if (bt x4 x5) = 110 then (if x3.size + 1 ≤ 9223372036854775807 then ((strconv_Itoa.f x450006).bind fun t456 => (if (x3 ++ (⟨#[32]⟩ : ByteArray)).size + t456.size ≤ 9223372036854775807 then (cofferref22_step.l0 k ((x3 ++ (⟨#[32]⟩ : ByteArray)) ++ t456) x4 (wrap64 (x5 + 1)) x450000 x450001 x450002 x450003 x450004 x450005 x450006 x450007) else (none))) else (none)) else (if (bt x4 x5) = 77 then (cofferref22_step.l1 k x3 x4 x5 0 x450000 x450001 x450002 x450003 x450004 x450005 x450006 x450007) else (if (bt x4 x5) = 75 then (cofferref22_step.l2 k x3 x4 x5 0 x450000 x450001 x450002 x450003 x450004 x450005 x450006 x450007) else (cofferref22_step.l0 k x3 x4 (wrap64 (x5 + 1)) x450000 x450001 x450002 x450003 x450004 x450005 x450006 x450007)))))))) else (none)) else (some x3)
def cofferref22_step.l1 : Nat → ByteArray → ByteArray → Int → Int → Int → ByteArray → ByteArray → ByteArray → List (S38) → Int → Int → List Int → Option (ByteArray)
 | 0, _, _, _, _, _, _, _, _, _, _, _, _ => none
 | k + 1, x3, x4, x5, x6, x450000, x450001, x450002, x450003, x450004, x450005, x450006, x450007 => if x6 < (x450004.length : Int) then (if x3.size + 1 ≤ 9223372036854775807 then (if 0 ≤ x6 then ((cofferref22_Quote.f k ((rd_T38 x450004 x6).f0)).bind fun t458 => (if (x3 ++ (⟨#[32]⟩ : ByteArray)).size + t458.size ≤ 9223372036854775807 then (if ((x3 ++ (⟨#[32]⟩ : ByteArray)) ++ t458).size + 1 ≤ 9223372036854775807 then ((cofferref22_Quote.f k ((rd_T38 x450004 x6).f1)).bind fun t460 => (if (((x3 ++ (⟨#[32]⟩ : ByteArray)) ++ t458) ++ (⟨#[32]⟩ : ByteArray)).size + t460.size ≤ 9223372036854775807 then (cofferref22_step.l1 k ((((x3 ++ (⟨#[32]⟩ : ByteArray)) ++ t458) ++ (⟨#[32]⟩ : ByteArray)) ++ t460) x4 x5 (wrap64 (x6 + 1)) x450000 x450001 x450002 x450003 x450004 x450005 x450006 x450007) else (none))) else (none)) else (none))) else (none)) else (none)) else (cofferref22_step.l0 k x3 x4 (wrap64 (x5 + 1)) x450000 x450001 x450002 x450003 x450004 x450005 x450006 x450007)
def cofferref22_step.l2 : Nat → ByteArray → ByteArray → Int → Int → Int → ByteArray → ByteArray → ByteArray → List (S38) → Int → Int → List Int → Option (ByteArray)
 | 0, _, _, _, _, _, _, _, _, _, _, _, _ => none
 | k + 1, x3, x4, x5, x7, x450000, x450001, x450002, x450003, x450004, x450005, x450006, x450007 => if x7 < (x450007.length : Int) then (if x3.size + 1 ≤ 9223372036854775807 then (if 0 ≤ x7 then ((strconv_Itoa.f (rd x450007 x7)).bind fun t462 => (if (x3 ++ (⟨#[32]⟩ : ByteArray)).size + t462.size ≤ 9223372036854775807 then (cofferref22_step.l2 k ((x3 ++ (⟨#[32]⟩ : ByteArray)) ++ t462) x4 x5 (wrap64 (x7 + 1)) x450000 x450001 x450002 x450003 x450004 x450005 x450006 x450007) else (none))) else (none)) else (none)) else (cofferref22_step.l0 k x3 x4 (wrap64 (x5 + 1)) x450000 x450001 x450002 x450003 x450004 x450005 x450006 x450007)
end
def cofferref22_step.f (k : Nat) (a0_0 : Int) (a0_1 : ByteArray) (a0_2 : ByteArray) (a0_3 : ByteArray) (l0_4 : List (S38)) (a0_5 : Int) (a0_6 : Int) (l0_7 : List Int) : Option (ByteArray) := (cofferref22_form.f a0_0).bind fun bt450 => (cofferref22_step.l0 k bt450.1 bt450.2 0 a0_0 a0_1 a0_2 a0_3 l0_4 a0_5 a0_6 l0_7)
def cofferref22_step.T20 : Bool × List (List Nat × List Nat) := (true, [([], []), ([0], [0]), ([], []), ([2], [2]), ([], []), ([3, 4], [3, 4]), ([5], [5]), ([6], [6]), ([7], [7]), ([1, 8], [1, 8]), ([9], [9]), ([], []), ([11], [11]), ([], []), ([12, 13], [12, 13]), ([14], [14]), ([15], [15]), ([16, 8], [16]), ([10, 17], [10, 17]), ([18, 17, 0, 1, 2, 3, 4, 5, 6, 7, 8, 9, 10, 11, 12, 13, 14, 15, 16, 17, 18], [0, 18])])
def cofferref22_step.B20 : List Nat := [0, 1, 0, 4, 0, 28, 60, 124, 252, 511, 1023, 0, 2048, 0, 14336, 30720, 63488, 129532, 262143, 524287]
theorem cofferref22_step.tab20 : rtab .any (opsOf Tryd.f28 20) = cofferref22_step.T20 := by kernel_rfl
theorem cofferref22_step.bits20 : waitsOk cofferref22_step.T20.2 cofferref22_step.B20 = true := by kernel_rfl
set_option maxHeartbeats 8000000 in
set_option maxRecDepth 100000 in
theorem cofferref22_step.calls (k : Nat) (a0_0 : Int) (a0_1 : ByteArray) (a0_2 : ByteArray) (a0_3 : ByteArray) (A0_4 : Option Addr) (c0_4 : Nat) (l0_4 : List (S38)) (a0_5 : Int) (a0_6 : Int) (A0_7 : Option Addr) (c0_7 : Nat) (l0_7 : List Int) (r : ByteArray) (w : World) (hr0_4 : Kd.C k38 w A0_4 l0_4.length l0_4) (hc0_4 : l0_4.length ≤ c0_4) (hr0_7 : Kd.C (Kd.int .i64) w A0_7 l0_7.length l0_7) (hc0_7 : l0_7.length ≤ c0_7) (hT : Tab w) (h : cofferref22_step.f k a0_0 a0_1 a0_2 a0_3 l0_4 a0_5 a0_6 l0_7 = some r) :
  Calls Tryd.prog 28 #[.agg #[.int .i64 a0_0, .string a0_1, .string a0_2, .string a0_3, .slice A0_4 l0_4.length c0_4, .int .i64 a0_5, .int .i64 a0_6, .slice A0_7 l0_7.length c0_7]] w fun e w' => e = .returned (.string r) ∧ Below w.heap.size w w' := by
 have hu55 := Tryd.underlying55
 have HR0_4 := Aside0.mk hr0_4
 have HC0_4 := Aside0.mk hc0_4
 clear hr0_4 hc0_4
 have HR0_7 := Aside0.mk hr0_7
 have HC0_7 := Aside0.mk hc0_7
 clear hr0_7 hc0_7
 have HB := Aside0.mk (Below.refl w.heap.size w)
 have HT := Aside0.mk hT
 clear hT
 have H : ((cofferref22_form.f a0_0).bind fun bt450 => (cofferref22_step.l0 k bt450.1 bt450.2 0 a0_0 a0_1 a0_2 a0_3 l0_4 a0_5 a0_6 l0_7)) = some r := h
 clear h
 replace H := Option.bind_eq_some_iff.mp H
 obtain ⟨⟨t450, t451⟩, A20, H⟩ := H
 replace H : (cofferref22_step.l0 k t450 t451 0 a0_0 a0_1 a0_2 a0_3 l0_4 a0_5 a0_6 l0_7) = some r := H
 have A2 := Aside0.mk A20
 clear A20
 have H' := Aside0.mk H
 clear H
 go_enter Tryd.func28, Tryd.ntmps28
 go_wp2_with (first | ((with_reducible refine zbm (N := 1) rfl ?_); refine zbn ?hg (N := 1) ?hd (cs := #[.int .i64 a0_0, .string a0_1, .string a0_2, .string a0_3, .slice A0_4 l0_4.length c0_4, .int .i64 a0_5, .int .i64 a0_6, .slice A0_7 l0_7.length c0_7]) (t := 55) ?hr ?_; (case hd => rfl); (case hg => rfl); (case hr => first | (go_simp; done) | (go_simp; rfl)); intro gb449 hg w3 hbox hb; have n0_ := Aside0.mk (zap (by repeat with_reducible first | exact HB.out | apply zae | apply zac | apply zad) hb); have n1_ := Aside0.mk (hbox); have n2_ := Aside0.mk ((by rw [hg]; exact (zal (by repeat with_reducible first | exact HB.out | apply zae | apply zac | apply zad)) : w.heap.size ≤ gb449)); have n3_ := Aside0.mk ((by rw [hg]; exact (zal (by repeat with_reducible first | exact HB.out | apply zae | apply zac | apply zad)) : w.heap.size ≤ gb449)); clear HB; have HB := n0_; have BK449 := n1_; have GW449 := n2_; have GE449 := n3_; clear n0_ n1_ n2_ n3_; clear hb hbox hg; have hcz4_0 : w3.cell? ⟨gb449, 0, none⟩ = some (.int .i64 a0_0) := (zaa BK449.out 0).trans rfl; have hcz4_1 : w3.cell? ⟨gb449, 1, none⟩ = some (.string a0_1) := (zaa BK449.out 1).trans rfl; have hcz4_2 : w3.cell? ⟨gb449, 2, none⟩ = some (.string a0_2) := (zaa BK449.out 2).trans rfl; have hcz4_3 : w3.cell? ⟨gb449, 3, none⟩ = some (.string a0_3) := (zaa BK449.out 3).trans rfl; have hcz4_4 : w3.cell? ⟨gb449, 4, none⟩ = some (.slice A0_4 l0_4.length c0_4) := (zaa BK449.out 4).trans rfl; have hcz4_5 : w3.cell? ⟨gb449, 5, none⟩ = some (.int .i64 a0_5) := (zaa BK449.out 5).trans rfl; have hcz4_6 : w3.cell? ⟨gb449, 6, none⟩ = some (.int .i64 a0_6) := (zaa BK449.out 6).trans rfl; have hcz4_7 : w3.cell? ⟨gb449, 7, none⟩ = some (.slice A0_7 l0_7.length c0_7) := (zaa BK449.out 7).trans rfl; have hfz4_0 := zab BK449.out 0; have hfz4_1 := zab BK449.out 1; have hfz4_2 := zab BK449.out 2; have hfz4_3 := zab BK449.out 3; have hfz4_4 := zab BK449.out 4; have hfz4_5 := zab BK449.out 5; have hfz4_6 := zab BK449.out 6; have hfz4_7 := zab BK449.out 7) | ((with_reducible refine zay (f := 37) rfl ?_); refine goesL_ (some 11) rfl rfl Tryd.func37 (by kernel_rfl) rfl #[.int .i64 a0_0] rfl (by (try simp only [List.map_toArray, List.map_cons, List.map_nil]); first | done | rfl | (simp only [List.length_drop, List.length_take]; rfl)) ?_; (with_reducible refine (cofferref22_form.calls a0_0 t450 t451 _ A2.out).mono ?_); rintro e w' ⟨rfl, ⟨nd, rfl⟩⟩; refine ⟨_, rfl, ?_⟩))
 go_loopg [3, 5] k (fun kq v3 v5 w' => ∃ (x3_1 : ByteArray) (x5_1 : Int), v3 = .string x3_1 ∧ v5 = .int .i64 x5_1 ∧ Aside0 (cofferref22_step.l0 kq x3_1 t451 x5_1 a0_0 a0_1 a0_2 a0_3 l0_4 a0_5 a0_6 l0_7 = some r) ∧ Aside0 (kq ≤ k) ∧ Aside0 (w'.heap[gb449]? = some (.cells #[.int .i64 a0_0, .string a0_1, .string a0_2, .string a0_3, (.slice A0_4 l0_4.length c0_4), .int .i64 a0_5, .int .i64 a0_6, (.slice A0_7 l0_7.length c0_7)] 55 (0, 0))) ∧ Aside0 (Below w.heap.size w w'))
 case atStart => exact ⟨(t450), (0), (by first | rfl | (simp; done) | (simp [*]; done)), (by first | rfl | (simp; done) | (simp [*]; done)), H', ⟨Nat.le_refl _⟩, ⟨by (with_reducible repeat (first | refine zai ?_ _ | refine zaj ?_ | refine zag ?_ _)); exact BK449.out⟩, ⟨by repeat with_reducible first | exact HB.out | apply zae | apply zac | apply zad | refine zah ?_ GE449.out⟩⟩
 case round =>
  clear H'
  try clear c2
  try clear p2
  try clear c3
  try clear hcz4_0
  try clear hcz4_1
  try clear hcz4_2
  try clear hcz4_3
  try clear hcz4_4
  try clear hcz4_5
  try clear hcz4_6
  try clear hcz4_7
  try clear hfz4_0
  try clear hfz4_1
  try clear hfz4_2
  try clear hfz4_3
  try clear hfz4_4
  try clear hfz4_5
  try clear hfz4_6
  try clear hfz4_7
  obtain ⟨x3_1, x5_1, rfl, rfl, HA, HK1, BK449, HB⟩ := hrel
  cases gk with
  | zero => exact absurd HA.out (by simp [cofferref22_step.l0])
  | succ k1 =>
   have H := HA.out
   clear HA
   simp only [cofferref22_step.l0] at H
   by_cases c5 : x5_1 < (t451.size : Int)
   rotate_left
   ·
    rw [if_neg c5] at H
    have c5b0 : decide (x5_1 < (t451.size : Int)) = false := decide_eq_false c5
    clear c5
    obtain rfl := Option.some.inj H
    go_wp2
    go_ret
    exact ⟨by first | rfl | (simp [zam, zan] <;> rfl) | (simp [*, zam, zan] <;> rfl), by repeat with_reducible first | exact HB.out | apply zae | apply zac | apply zad | refine zah ?_ GE449.out⟩
   rw [if_pos c5] at H
   have c5b0 : decide (x5_1 < (t451.size : Int)) = true := decide_eq_true c5
   clear c5
   by_cases c6 : 0 ≤ x5_1
   rotate_left
   ·
    rw [if_neg c6] at H
    exact absurd H (by simp)
   rw [if_pos c6] at H
   have c6b0 : decide (0 ≤ x5_1) = true := decide_eq_true c6
   clear c6
   by_cases c8 : (bt t451 x5_1) = 98
   ·
    rw [if_pos c8] at H
    have c8b0 : ((bt t451 x5_1) == 98) = true := beq_iff_eq.mpr c8
    have c8b1 : ((bt t451 x5_1) != 98) = false := bne_eq_false_iff_eq.mpr c8
    clear c8
    by_cases c9 : x3_1.size + 1 ≤ 9223372036854775807
    rotate_left
    ·
     rw [if_neg c9] at H
     exact absurd H (by simp)
    rw [if_pos c9] at H
    have c9b0 := eq_true c9
    have c9b1 : decide (x3_1.size + 1 ≤ 9223372036854775807) = true := decide_eq_true c9
    try have c9b2 : (9223372036854775807 < x3_1.size + 1) = False := eq_false (Nat.not_lt.2 c9)
    replace H := Option.bind_eq_some_iff.mp H
    obtain ⟨t452, A100, H⟩ := H
    replace H : (if (x3_1 ++ (⟨#[32]⟩ : ByteArray)).size + t452.size ≤ 9223372036854775807 then (cofferref22_step.l0 k1 ((x3_1 ++ (⟨#[32]⟩ : ByteArray)) ++ t452) t451 (wrap64 (x5_1 + 1)) a0_0 a0_1 a0_2 a0_3 l0_4 a0_5 a0_6 l0_7) else (none)) = some r := H
    have A10 := Aside0.mk A100
    clear A100
    by_cases c11 : (x3_1 ++ (⟨#[32]⟩ : ByteArray)).size + t452.size ≤ 9223372036854775807
    rotate_left
    ·
     rw [if_neg c11] at H
     exact absurd H (by simp)
    rw [if_pos c11] at H
    have c11b0 := eq_true c11
    have c11b1 : decide ((x3_1 ++ (⟨#[32]⟩ : ByteArray)).size + t452.size ≤ 9223372036854775807) = true := decide_eq_true c11
    try have c11b2 : (9223372036854775807 < (x3_1 ++ (⟨#[32]⟩ : ByteArray)).size + t452.size) = False := eq_false (Nat.not_lt.2 c11)
    try have c11b3 : (9223372036854775807 < x3_1.size + 1 + t452.size) = False := eq_false (Nat.not_lt.2 (by have h_ := c11; simp only [ByteArray.size_append] at h_; exact h_))
    try have c11b4 : (9223372036854775807 < x3_1.size + 1 + t452.size) = False := eq_false (Nat.not_lt.2 (by have h_ := c11; simp only [ByteArray.size_append] at h_; exact h_))
    have H' := Aside0.mk H
    clear H
    have p7 : 0 ≤ (x5_1 : Int) := of_decide_eq_true (by first | (with_reducible assumption) | assumption)
    have q7 : x5_1 < (t451.size : Int) := of_decide_eq_true (by first | (with_reducible assumption) | assumption)
    have hx7 := bt_at t451 x5_1
    replace p7 := eq_true p7
    replace q7 := eq_true q7
    have hcz12_0 : wr.cell? ⟨gb449, 0, none⟩ = some (.int .i64 a0_0) := (zaa BK449.out 0).trans rfl
    have hcz12_1 : wr.cell? ⟨gb449, 1, none⟩ = some (.string a0_1) := (zaa BK449.out 1).trans rfl
    have hcz12_2 : wr.cell? ⟨gb449, 2, none⟩ = some (.string a0_2) := (zaa BK449.out 2).trans rfl
    have hcz12_3 : wr.cell? ⟨gb449, 3, none⟩ = some (.string a0_3) := (zaa BK449.out 3).trans rfl
    have hcz12_4 : wr.cell? ⟨gb449, 4, none⟩ = some (.slice A0_4 l0_4.length c0_4) := (zaa BK449.out 4).trans rfl
    have hcz12_5 : wr.cell? ⟨gb449, 5, none⟩ = some (.int .i64 a0_5) := (zaa BK449.out 5).trans rfl
    have hcz12_6 : wr.cell? ⟨gb449, 6, none⟩ = some (.int .i64 a0_6) := (zaa BK449.out 6).trans rfl
    have hcz12_7 : wr.cell? ⟨gb449, 7, none⟩ = some (.slice A0_7 l0_7.length c0_7) := (zaa BK449.out 7).trans rfl
    have hfz12_0 := zab BK449.out 0
    have hfz12_1 := zab BK449.out 1
    have hfz12_2 := zab BK449.out 2
    have hfz12_3 := zab BK449.out 3
    have hfz12_4 := zab BK449.out 4
    have hfz12_5 := zab BK449.out 5
    have hfz12_6 := zab BK449.out 6
    have hfz12_7 := zab BK449.out 7
    go_wp2_with (first | ((with_reducible refine zay (f := 14) rfl ?_); refine goesL_ (some 29) rfl rfl Tryd.func14 (by kernel_rfl) rfl #[.string a0_1] rfl (by (try simp only [List.map_toArray, List.map_cons, List.map_nil]); first | done | rfl | (simp only [List.length_drop, List.length_take]; rfl)) ?_; (with_reducible refine (cofferref22_Quote.calls k1 a0_1 t452 _ A10.out).mono ?_); rintro e w13 ⟨rfl, hb⟩; refine ⟨_, rfl, ?_⟩; have n0_ := Aside0.mk (zaz (g := gb449) (o := .cells #[.int .i64 a0_0, .string a0_1, .string a0_2, .string a0_3, .slice A0_4 l0_4.length c0_4, .int .i64 a0_5, .int .i64 a0_6, .slice A0_7 l0_7.length c0_7] 55 (0, 0)) (by (with_reducible repeat (first | refine zai ?_ _ | refine zaj ?_ | refine zag ?_ _)); exact BK449.out) hb); have n1_ := Aside0.mk (zap (by repeat with_reducible first | exact HB.out | apply zae | apply zac | apply zad | refine zah ?_ GE449.out) hb); clear BK449; clear HB; have BK449 := n0_; have HB := n1_; clear n0_ n1_; (try clear hb); (try clear hb2); (try clear hk); (try clear hi)))
    go_roundg k1
    case measure => have := HK1.out; omega
    case rel => exact ⟨((x3_1 ++ (⟨#[32]⟩ : ByteArray)) ++ t452), (wrap64 (x5_1 + 1)), (by first | rfl | (simp; done) | (simp [*]; done)), (by first | rfl | (simp; done) | (simp [*]; done)), H', ⟨by have := HK1.out; omega⟩, ⟨by (with_reducible repeat (first | refine zai ?_ _ | refine zaj ?_ | refine zag ?_ _)); exact BK449.out⟩, ⟨by repeat with_reducible first | exact HB.out | apply zae | apply zac | apply zad | refine zah ?_ GE449.out⟩⟩
   rw [if_neg c8] at H
   have c8b0 : ((bt t451 x5_1) == 98) = false := beq_eq_false_iff_ne.mpr c8
   have c8b1 : ((bt t451 x5_1) != 98) = true := bne_iff_ne.mpr c8
   by_cases c14 : (bt t451 x5_1) = 107
   ·
    rw [if_pos c14] at H
    have c14b0 : ((bt t451 x5_1) == 107) = true := beq_iff_eq.mpr c14
    have c14b1 : ((bt t451 x5_1) != 107) = false := bne_eq_false_iff_eq.mpr c14
    clear c14
    by_cases c15 : x3_1.size + 1 ≤ 9223372036854775807
    rotate_left
    ·
     rw [if_neg c15] at H
     exact absurd H (by simp)
    rw [if_pos c15] at H
    have c15b0 := eq_true c15
    have c15b1 : decide (x3_1.size + 1 ≤ 9223372036854775807) = true := decide_eq_true c15
    try have c15b2 : (9223372036854775807 < x3_1.size + 1) = False := eq_false (Nat.not_lt.2 c15)
    replace H := Option.bind_eq_some_iff.mp H
    obtain ⟨t453, A160, H⟩ := H
    replace H : (if (x3_1 ++ (⟨#[32]⟩ : ByteArray)).size + t453.size ≤ 9223372036854775807 then (cofferref22_step.l0 k1 ((x3_1 ++ (⟨#[32]⟩ : ByteArray)) ++ t453) t451 (wrap64 (x5_1 + 1)) a0_0 a0_1 a0_2 a0_3 l0_4 a0_5 a0_6 l0_7) else (none)) = some r := H
    have A16 := Aside0.mk A160
    clear A160
    by_cases c17 : (x3_1 ++ (⟨#[32]⟩ : ByteArray)).size + t453.size ≤ 9223372036854775807
    rotate_left
    ·
     rw [if_neg c17] at H
     exact absurd H (by simp)
    rw [if_pos c17] at H
    have c17b0 := eq_true c17
    have c17b1 : decide ((x3_1 ++ (⟨#[32]⟩ : ByteArray)).size + t453.size ≤ 9223372036854775807) = true := decide_eq_true c17
    try have c17b2 : (9223372036854775807 < (x3_1 ++ (⟨#[32]⟩ : ByteArray)).size + t453.size) = False := eq_false (Nat.not_lt.2 c17)
    try have c17b3 : (9223372036854775807 < x3_1.size + 1 + t453.size) = False := eq_false (Nat.not_lt.2 (by have h_ := c17; simp only [ByteArray.size_append] at h_; exact h_))
    try have c17b4 : (9223372036854775807 < x3_1.size + 1 + t453.size) = False := eq_false (Nat.not_lt.2 (by have h_ := c17; simp only [ByteArray.size_append] at h_; exact h_))
    have H' := Aside0.mk H
    clear H
    have p7 : 0 ≤ (x5_1 : Int) := of_decide_eq_true (by first | (with_reducible assumption) | assumption)
    have q7 : x5_1 < (t451.size : Int) := of_decide_eq_true (by first | (with_reducible assumption) | assumption)
    have hx7 := bt_at t451 x5_1
    replace p7 := eq_true p7
    replace q7 := eq_true q7
    have hcz18_0 : wr.cell? ⟨gb449, 0, none⟩ = some (.int .i64 a0_0) := (zaa BK449.out 0).trans rfl
    have hcz18_1 : wr.cell? ⟨gb449, 1, none⟩ = some (.string a0_1) := (zaa BK449.out 1).trans rfl
    have hcz18_2 : wr.cell? ⟨gb449, 2, none⟩ = some (.string a0_2) := (zaa BK449.out 2).trans rfl
    have hcz18_3 : wr.cell? ⟨gb449, 3, none⟩ = some (.string a0_3) := (zaa BK449.out 3).trans rfl
    have hcz18_4 : wr.cell? ⟨gb449, 4, none⟩ = some (.slice A0_4 l0_4.length c0_4) := (zaa BK449.out 4).trans rfl
    have hcz18_5 : wr.cell? ⟨gb449, 5, none⟩ = some (.int .i64 a0_5) := (zaa BK449.out 5).trans rfl
    have hcz18_6 : wr.cell? ⟨gb449, 6, none⟩ = some (.int .i64 a0_6) := (zaa BK449.out 6).trans rfl
    have hcz18_7 : wr.cell? ⟨gb449, 7, none⟩ = some (.slice A0_7 l0_7.length c0_7) := (zaa BK449.out 7).trans rfl
    have hfz18_0 := zab BK449.out 0
    have hfz18_1 := zab BK449.out 1
    have hfz18_2 := zab BK449.out 2
    have hfz18_3 := zab BK449.out 3
    have hfz18_4 := zab BK449.out 4
    have hfz18_5 := zab BK449.out 5
    have hfz18_6 := zab BK449.out 6
    have hfz18_7 := zab BK449.out 7
    go_wp2_with (first | ((with_reducible refine zay (f := 14) rfl ?_); refine goesL_ (some 37) rfl rfl Tryd.func14 (by kernel_rfl) rfl #[.string a0_2] rfl (by (try simp only [List.map_toArray, List.map_cons, List.map_nil]); first | done | rfl | (simp only [List.length_drop, List.length_take]; rfl)) ?_; (with_reducible refine (cofferref22_Quote.calls k1 a0_2 t453 _ A16.out).mono ?_); rintro e w19 ⟨rfl, hb⟩; refine ⟨_, rfl, ?_⟩; have n0_ := Aside0.mk (zaz (g := gb449) (o := .cells #[.int .i64 a0_0, .string a0_1, .string a0_2, .string a0_3, .slice A0_4 l0_4.length c0_4, .int .i64 a0_5, .int .i64 a0_6, .slice A0_7 l0_7.length c0_7] 55 (0, 0)) (by (with_reducible repeat (first | refine zai ?_ _ | refine zaj ?_ | refine zag ?_ _)); exact BK449.out) hb); have n1_ := Aside0.mk (zap (by repeat with_reducible first | exact HB.out | apply zae | apply zac | apply zad | refine zah ?_ GE449.out) hb); clear BK449; clear HB; have BK449 := n0_; have HB := n1_; clear n0_ n1_; (try clear hb); (try clear hb2); (try clear hk); (try clear hi)))
    go_roundg k1
    case measure => have := HK1.out; omega
    case rel => exact ⟨((x3_1 ++ (⟨#[32]⟩ : ByteArray)) ++ t453), (wrap64 (x5_1 + 1)), (by first | rfl | (simp; done) | (simp [*]; done)), (by first | rfl | (simp; done) | (simp [*]; done)), H', ⟨by have := HK1.out; omega⟩, ⟨by (with_reducible repeat (first | refine zai ?_ _ | refine zaj ?_ | refine zag ?_ _)); exact BK449.out⟩, ⟨by repeat with_reducible first | exact HB.out | apply zae | apply zac | apply zad | refine zah ?_ GE449.out⟩⟩
   rw [if_neg c14] at H
   have c14b0 : ((bt t451 x5_1) == 107) = false := beq_eq_false_iff_ne.mpr c14
   have c14b1 : ((bt t451 x5_1) != 107) = true := bne_iff_ne.mpr c14
   by_cases c20 : (bt t451 x5_1) = 100
   ·
    rw [if_pos c20] at H
    have c20b0 : ((bt t451 x5_1) == 100) = true := beq_iff_eq.mpr c20
    have c20b1 : ((bt t451 x5_1) != 100) = false := bne_eq_false_iff_eq.mpr c20
    clear c20
    by_cases c21 : x3_1.size + 1 ≤ 9223372036854775807
    rotate_left
    ·
     rw [if_neg c21] at H
     exact absurd H (by simp)
    rw [if_pos c21] at H
    have c21b0 := eq_true c21
    have c21b1 : decide (x3_1.size + 1 ≤ 9223372036854775807) = true := decide_eq_true c21
    try have c21b2 : (9223372036854775807 < x3_1.size + 1) = False := eq_false (Nat.not_lt.2 c21)
    replace H := Option.bind_eq_some_iff.mp H
    obtain ⟨t454, A220, H⟩ := H
    replace H : (if (x3_1 ++ (⟨#[32]⟩ : ByteArray)).size + t454.size ≤ 9223372036854775807 then (cofferref22_step.l0 k1 ((x3_1 ++ (⟨#[32]⟩ : ByteArray)) ++ t454) t451 (wrap64 (x5_1 + 1)) a0_0 a0_1 a0_2 a0_3 l0_4 a0_5 a0_6 l0_7) else (none)) = some r := H
    have A22 := Aside0.mk A220
    clear A220
    by_cases c23 : (x3_1 ++ (⟨#[32]⟩ : ByteArray)).size + t454.size ≤ 9223372036854775807
    rotate_left
    ·
     rw [if_neg c23] at H
     exact absurd H (by simp)
    rw [if_pos c23] at H
    have c23b0 := eq_true c23
    have c23b1 : decide ((x3_1 ++ (⟨#[32]⟩ : ByteArray)).size + t454.size ≤ 9223372036854775807) = true := decide_eq_true c23
    try have c23b2 : (9223372036854775807 < (x3_1 ++ (⟨#[32]⟩ : ByteArray)).size + t454.size) = False := eq_false (Nat.not_lt.2 c23)
    try have c23b3 : (9223372036854775807 < x3_1.size + 1 + t454.size) = False := eq_false (Nat.not_lt.2 (by have h_ := c23; simp only [ByteArray.size_append] at h_; exact h_))
    try have c23b4 : (9223372036854775807 < x3_1.size + 1 + t454.size) = False := eq_false (Nat.not_lt.2 (by have h_ := c23; simp only [ByteArray.size_append] at h_; exact h_))
    have H' := Aside0.mk H
    clear H
    have p7 : 0 ≤ (x5_1 : Int) := of_decide_eq_true (by first | (with_reducible assumption) | assumption)
    have q7 : x5_1 < (t451.size : Int) := of_decide_eq_true (by first | (with_reducible assumption) | assumption)
    have hx7 := bt_at t451 x5_1
    replace p7 := eq_true p7
    replace q7 := eq_true q7
    have hcz24_0 : wr.cell? ⟨gb449, 0, none⟩ = some (.int .i64 a0_0) := (zaa BK449.out 0).trans rfl
    have hcz24_1 : wr.cell? ⟨gb449, 1, none⟩ = some (.string a0_1) := (zaa BK449.out 1).trans rfl
    have hcz24_2 : wr.cell? ⟨gb449, 2, none⟩ = some (.string a0_2) := (zaa BK449.out 2).trans rfl
    have hcz24_3 : wr.cell? ⟨gb449, 3, none⟩ = some (.string a0_3) := (zaa BK449.out 3).trans rfl
    have hcz24_4 : wr.cell? ⟨gb449, 4, none⟩ = some (.slice A0_4 l0_4.length c0_4) := (zaa BK449.out 4).trans rfl
    have hcz24_5 : wr.cell? ⟨gb449, 5, none⟩ = some (.int .i64 a0_5) := (zaa BK449.out 5).trans rfl
    have hcz24_6 : wr.cell? ⟨gb449, 6, none⟩ = some (.int .i64 a0_6) := (zaa BK449.out 6).trans rfl
    have hcz24_7 : wr.cell? ⟨gb449, 7, none⟩ = some (.slice A0_7 l0_7.length c0_7) := (zaa BK449.out 7).trans rfl
    have hfz24_0 := zab BK449.out 0
    have hfz24_1 := zab BK449.out 1
    have hfz24_2 := zab BK449.out 2
    have hfz24_3 := zab BK449.out 3
    have hfz24_4 := zab BK449.out 4
    have hfz24_5 := zab BK449.out 5
    have hfz24_6 := zab BK449.out 6
    have hfz24_7 := zab BK449.out 7
    go_wp2_with (first | ((with_reducible refine zay (f := 14) rfl ?_); refine goesL_ (some 45) rfl rfl Tryd.func14 (by kernel_rfl) rfl #[.string a0_3] rfl (by (try simp only [List.map_toArray, List.map_cons, List.map_nil]); first | done | rfl | (simp only [List.length_drop, List.length_take]; rfl)) ?_; (with_reducible refine (cofferref22_Quote.calls k1 a0_3 t454 _ A22.out).mono ?_); rintro e w25 ⟨rfl, hb⟩; refine ⟨_, rfl, ?_⟩; have n0_ := Aside0.mk (zaz (g := gb449) (o := .cells #[.int .i64 a0_0, .string a0_1, .string a0_2, .string a0_3, .slice A0_4 l0_4.length c0_4, .int .i64 a0_5, .int .i64 a0_6, .slice A0_7 l0_7.length c0_7] 55 (0, 0)) (by (with_reducible repeat (first | refine zai ?_ _ | refine zaj ?_ | refine zag ?_ _)); exact BK449.out) hb); have n1_ := Aside0.mk (zap (by repeat with_reducible first | exact HB.out | apply zae | apply zac | apply zad | refine zah ?_ GE449.out) hb); clear BK449; clear HB; have BK449 := n0_; have HB := n1_; clear n0_ n1_; (try clear hb); (try clear hb2); (try clear hk); (try clear hi)))
    go_roundg k1
    case measure => have := HK1.out; omega
    case rel => exact ⟨((x3_1 ++ (⟨#[32]⟩ : ByteArray)) ++ t454), (wrap64 (x5_1 + 1)), (by first | rfl | (simp; done) | (simp [*]; done)), (by first | rfl | (simp; done) | (simp [*]; done)), H', ⟨by have := HK1.out; omega⟩, ⟨by (with_reducible repeat (first | refine zai ?_ _ | refine zaj ?_ | refine zag ?_ _)); exact BK449.out⟩, ⟨by repeat with_reducible first | exact HB.out | apply zae | apply zac | apply zad | refine zah ?_ GE449.out⟩⟩
   rw [if_neg c20] at H
   have c20b0 : ((bt t451 x5_1) == 100) = false := beq_eq_false_iff_ne.mpr c20
   have c20b1 : ((bt t451 x5_1) != 100) = true := bne_iff_ne.mpr c20
   by_cases c26 : (bt t451 x5_1) = 115
   ·
    rw [if_pos c26] at H
    have c26b0 : ((bt t451 x5_1) == 115) = true := beq_iff_eq.mpr c26
    have c26b1 : ((bt t451 x5_1) != 115) = false := bne_eq_false_iff_eq.mpr c26
    clear c26
    by_cases c27 : x3_1.size + 1 ≤ 9223372036854775807
    rotate_left
    ·
     rw [if_neg c27] at H
     exact absurd H (by simp)
    rw [if_pos c27] at H
    have c27b0 := eq_true c27
    have c27b1 : decide (x3_1.size + 1 ≤ 9223372036854775807) = true := decide_eq_true c27
    try have c27b2 : (9223372036854775807 < x3_1.size + 1) = False := eq_false (Nat.not_lt.2 c27)
    replace H := Option.bind_eq_some_iff.mp H
    obtain ⟨t455, A280, H⟩ := H
    replace H : (if (x3_1 ++ (⟨#[32]⟩ : ByteArray)).size + t455.size ≤ 9223372036854775807 then (cofferref22_step.l0 k1 ((x3_1 ++ (⟨#[32]⟩ : ByteArray)) ++ t455) t451 (wrap64 (x5_1 + 1)) a0_0 a0_1 a0_2 a0_3 l0_4 a0_5 a0_6 l0_7) else (none)) = some r := H
    have A28 := Aside0.mk A280
    clear A280
    by_cases c29 : (x3_1 ++ (⟨#[32]⟩ : ByteArray)).size + t455.size ≤ 9223372036854775807
    rotate_left
    ·
     rw [if_neg c29] at H
     exact absurd H (by simp)
    rw [if_pos c29] at H
    have c29b0 := eq_true c29
    have c29b1 : decide ((x3_1 ++ (⟨#[32]⟩ : ByteArray)).size + t455.size ≤ 9223372036854775807) = true := decide_eq_true c29
    try have c29b2 : (9223372036854775807 < (x3_1 ++ (⟨#[32]⟩ : ByteArray)).size + t455.size) = False := eq_false (Nat.not_lt.2 c29)
    try have c29b3 : (9223372036854775807 < x3_1.size + 1 + t455.size) = False := eq_false (Nat.not_lt.2 (by have h_ := c29; simp only [ByteArray.size_append] at h_; exact h_))
    try have c29b4 : (9223372036854775807 < x3_1.size + 1 + t455.size) = False := eq_false (Nat.not_lt.2 (by have h_ := c29; simp only [ByteArray.size_append] at h_; exact h_))
    have H' := Aside0.mk H
    clear H
    have p7 : 0 ≤ (x5_1 : Int) := of_decide_eq_true (by first | (with_reducible assumption) | assumption)
    have q7 : x5_1 < (t451.size : Int) := of_decide_eq_true (by first | (with_reducible assumption) | assumption)
    have hx7 := bt_at t451 x5_1
    replace p7 := eq_true p7
    replace q7 := eq_true q7
    have hcz30_0 : wr.cell? ⟨gb449, 0, none⟩ = some (.int .i64 a0_0) := (zaa BK449.out 0).trans rfl
    have hcz30_1 : wr.cell? ⟨gb449, 1, none⟩ = some (.string a0_1) := (zaa BK449.out 1).trans rfl
    have hcz30_2 : wr.cell? ⟨gb449, 2, none⟩ = some (.string a0_2) := (zaa BK449.out 2).trans rfl
    have hcz30_3 : wr.cell? ⟨gb449, 3, none⟩ = some (.string a0_3) := (zaa BK449.out 3).trans rfl
    have hcz30_4 : wr.cell? ⟨gb449, 4, none⟩ = some (.slice A0_4 l0_4.length c0_4) := (zaa BK449.out 4).trans rfl
    have hcz30_5 : wr.cell? ⟨gb449, 5, none⟩ = some (.int .i64 a0_5) := (zaa BK449.out 5).trans rfl
    have hcz30_6 : wr.cell? ⟨gb449, 6, none⟩ = some (.int .i64 a0_6) := (zaa BK449.out 6).trans rfl
    have hcz30_7 : wr.cell? ⟨gb449, 7, none⟩ = some (.slice A0_7 l0_7.length c0_7) := (zaa BK449.out 7).trans rfl
    have hfz30_0 := zab BK449.out 0
    have hfz30_1 := zab BK449.out 1
    have hfz30_2 := zab BK449.out 2
    have hfz30_3 := zab BK449.out 3
    have hfz30_4 := zab BK449.out 4
    have hfz30_5 := zab BK449.out 5
    have hfz30_6 := zab BK449.out 6
    have hfz30_7 := zab BK449.out 7
    go_wp2_with (first | ((with_reducible refine zay (f := 38) rfl ?_); refine goesL_ (some 53) rfl rfl Tryd.func38 (by kernel_rfl) rfl #[.int .i64 a0_5, .int .i64 10] rfl (by (try simp only [List.map_toArray, List.map_cons, List.map_nil]); first | done | rfl | (simp only [List.length_drop, List.length_take]; rfl)) ?_; (with_reducible refine (strconv_FormatInt.calls a0_5 10 t455 _ ?side1 A28.out).mono ?_); (case side1 => exact zba HT.out (by repeat with_reducible first | exact HB.out | apply zae | apply zac | apply zad | refine zah ?_ GE449.out)); rintro e w31 ⟨rfl, hb⟩; refine ⟨_, rfl, ?_⟩; have n0_ := Aside0.mk (zaz (g := gb449) (o := .cells #[.int .i64 a0_0, .string a0_1, .string a0_2, .string a0_3, .slice A0_4 l0_4.length c0_4, .int .i64 a0_5, .int .i64 a0_6, .slice A0_7 l0_7.length c0_7] 55 (0, 0)) (by (with_reducible repeat (first | refine zai ?_ _ | refine zaj ?_ | refine zag ?_ _)); exact BK449.out) hb); have n1_ := Aside0.mk (zap (by repeat with_reducible first | exact HB.out | apply zae | apply zac | apply zad | refine zah ?_ GE449.out) hb); clear BK449; clear HB; have BK449 := n0_; have HB := n1_; clear n0_ n1_; (try clear hb); (try clear hb2); (try clear hk); (try clear hi)))
    go_roundg k1
    case measure => have := HK1.out; omega
    case rel => exact ⟨((x3_1 ++ (⟨#[32]⟩ : ByteArray)) ++ t455), (wrap64 (x5_1 + 1)), (by first | rfl | (simp; done) | (simp [*]; done)), (by first | rfl | (simp; done) | (simp [*]; done)), H', ⟨by have := HK1.out; omega⟩, ⟨by (with_reducible repeat (first | refine zai ?_ _ | refine zaj ?_ | refine zag ?_ _)); exact BK449.out⟩, ⟨by repeat with_reducible first | exact HB.out | apply zae | apply zac | apply zad | refine zah ?_ GE449.out⟩⟩
   rw [if_neg c26] at H
   have c26b0 : ((bt t451 x5_1) == 115) = false := beq_eq_false_iff_ne.mpr c26
   have c26b1 : ((bt t451 x5_1) != 115) = true := bne_iff_ne.mpr c26
   by_cases c32 : (bt t451 x5_1) = 110
   ·
    rw [if_pos c32] at H
    have c32b0 : ((bt t451 x5_1) == 110) = true := beq_iff_eq.mpr c32
    have c32b1 : ((bt t451 x5_1) != 110) = false := bne_eq_false_iff_eq.mpr c32
    clear c32
    by_cases c33 : x3_1.size + 1 ≤ 9223372036854775807
    rotate_left
    ·
     rw [if_neg c33] at H
     exact absurd H (by simp)
    rw [if_pos c33] at H
    have c33b0 := eq_true c33
    have c33b1 : decide (x3_1.size + 1 ≤ 9223372036854775807) = true := decide_eq_true c33
    try have c33b2 : (9223372036854775807 < x3_1.size + 1) = False := eq_false (Nat.not_lt.2 c33)
    replace H := Option.bind_eq_some_iff.mp H
    obtain ⟨t456, A340, H⟩ := H
    replace H : (if (x3_1 ++ (⟨#[32]⟩ : ByteArray)).size + t456.size ≤ 9223372036854775807 then (cofferref22_step.l0 k1 ((x3_1 ++ (⟨#[32]⟩ : ByteArray)) ++ t456) t451 (wrap64 (x5_1 + 1)) a0_0 a0_1 a0_2 a0_3 l0_4 a0_5 a0_6 l0_7) else (none)) = some r := H
    have A34 := Aside0.mk A340
    clear A340
    by_cases c35 : (x3_1 ++ (⟨#[32]⟩ : ByteArray)).size + t456.size ≤ 9223372036854775807
    rotate_left
    ·
     rw [if_neg c35] at H
     exact absurd H (by simp)
    rw [if_pos c35] at H
    have c35b0 := eq_true c35
    have c35b1 : decide ((x3_1 ++ (⟨#[32]⟩ : ByteArray)).size + t456.size ≤ 9223372036854775807) = true := decide_eq_true c35
    try have c35b2 : (9223372036854775807 < (x3_1 ++ (⟨#[32]⟩ : ByteArray)).size + t456.size) = False := eq_false (Nat.not_lt.2 c35)
    try have c35b3 : (9223372036854775807 < x3_1.size + 1 + t456.size) = False := eq_false (Nat.not_lt.2 (by have h_ := c35; simp only [ByteArray.size_append] at h_; exact h_))
    try have c35b4 : (9223372036854775807 < x3_1.size + 1 + t456.size) = False := eq_false (Nat.not_lt.2 (by have h_ := c35; simp only [ByteArray.size_append] at h_; exact h_))
    have H' := Aside0.mk H
    clear H
    have p7 : 0 ≤ (x5_1 : Int) := of_decide_eq_true (by first | (with_reducible assumption) | assumption)
    have q7 : x5_1 < (t451.size : Int) := of_decide_eq_true (by first | (with_reducible assumption) | assumption)
    have hx7 := bt_at t451 x5_1
    replace p7 := eq_true p7
    replace q7 := eq_true q7
    have hcz36_0 : wr.cell? ⟨gb449, 0, none⟩ = some (.int .i64 a0_0) := (zaa BK449.out 0).trans rfl
    have hcz36_1 : wr.cell? ⟨gb449, 1, none⟩ = some (.string a0_1) := (zaa BK449.out 1).trans rfl
    have hcz36_2 : wr.cell? ⟨gb449, 2, none⟩ = some (.string a0_2) := (zaa BK449.out 2).trans rfl
    have hcz36_3 : wr.cell? ⟨gb449, 3, none⟩ = some (.string a0_3) := (zaa BK449.out 3).trans rfl
    have hcz36_4 : wr.cell? ⟨gb449, 4, none⟩ = some (.slice A0_4 l0_4.length c0_4) := (zaa BK449.out 4).trans rfl
    have hcz36_5 : wr.cell? ⟨gb449, 5, none⟩ = some (.int .i64 a0_5) := (zaa BK449.out 5).trans rfl
    have hcz36_6 : wr.cell? ⟨gb449, 6, none⟩ = some (.int .i64 a0_6) := (zaa BK449.out 6).trans rfl
    have hcz36_7 : wr.cell? ⟨gb449, 7, none⟩ = some (.slice A0_7 l0_7.length c0_7) := (zaa BK449.out 7).trans rfl
    have hfz36_0 := zab BK449.out 0
    have hfz36_1 := zab BK449.out 1
    have hfz36_2 := zab BK449.out 2
    have hfz36_3 := zab BK449.out 3
    have hfz36_4 := zab BK449.out 4
    have hfz36_5 := zab BK449.out 5
    have hfz36_6 := zab BK449.out 6
    have hfz36_7 := zab BK449.out 7
    go_wp2_with (first | ((with_reducible refine zay (f := 22) rfl ?_); refine goesL_ (some 61) rfl rfl Tryd.func22 (by kernel_rfl) rfl #[.int .i64 a0_6] rfl (by (try simp only [List.map_toArray, List.map_cons, List.map_nil]); first | done | rfl | (simp only [List.length_drop, List.length_take]; rfl)) ?_; (with_reducible refine (strconv_Itoa.calls a0_6 t456 _ ?side1 A34.out).mono ?_); (case side1 => exact zba HT.out (by repeat with_reducible first | exact HB.out | apply zae | apply zac | apply zad | refine zah ?_ GE449.out)); rintro e w37 ⟨rfl, hb⟩; refine ⟨_, rfl, ?_⟩; have n0_ := Aside0.mk (zaz (g := gb449) (o := .cells #[.int .i64 a0_0, .string a0_1, .string a0_2, .string a0_3, .slice A0_4 l0_4.length c0_4, .int .i64 a0_5, .int .i64 a0_6, .slice A0_7 l0_7.length c0_7] 55 (0, 0)) (by (with_reducible repeat (first | refine zai ?_ _ | refine zaj ?_ | refine zag ?_ _)); exact BK449.out) hb); have n1_ := Aside0.mk (zap (by repeat with_reducible first | exact HB.out | apply zae | apply zac | apply zad | refine zah ?_ GE449.out) hb); clear BK449; clear HB; have BK449 := n0_; have HB := n1_; clear n0_ n1_; (try clear hb); (try clear hb2); (try clear hk); (try clear hi)))
    go_roundg k1
    case measure => have := HK1.out; omega
    case rel => exact ⟨((x3_1 ++ (⟨#[32]⟩ : ByteArray)) ++ t456), (wrap64 (x5_1 + 1)), (by first | rfl | (simp; done) | (simp [*]; done)), (by first | rfl | (simp; done) | (simp [*]; done)), H', ⟨by have := HK1.out; omega⟩, ⟨by (with_reducible repeat (first | refine zai ?_ _ | refine zaj ?_ | refine zag ?_ _)); exact BK449.out⟩, ⟨by repeat with_reducible first | exact HB.out | apply zae | apply zac | apply zad | refine zah ?_ GE449.out⟩⟩
   rw [if_neg c32] at H
   have c32b0 : ((bt t451 x5_1) == 110) = false := beq_eq_false_iff_ne.mpr c32
   have c32b1 : ((bt t451 x5_1) != 110) = true := bne_iff_ne.mpr c32
   by_cases c38 : (bt t451 x5_1) = 77
   rotate_left
   ·
    rw [if_neg c38] at H
    have c38b0 : ((bt t451 x5_1) == 77) = false := beq_eq_false_iff_ne.mpr c38
    have c38b1 : ((bt t451 x5_1) != 77) = true := bne_iff_ne.mpr c38
    by_cases c52 : (bt t451 x5_1) = 75
    rotate_left
    ·
     rw [if_neg c52] at H
     have c52b0 : ((bt t451 x5_1) == 75) = false := beq_eq_false_iff_ne.mpr c52
     have c52b1 : ((bt t451 x5_1) != 75) = true := bne_iff_ne.mpr c52
     have H' := Aside0.mk H
     clear H
     have p7 : 0 ≤ (x5_1 : Int) := of_decide_eq_true (by first | (with_reducible assumption) | assumption)
     have q7 : x5_1 < (t451.size : Int) := of_decide_eq_true (by first | (with_reducible assumption) | assumption)
     have hx7 := bt_at t451 x5_1
     replace p7 := eq_true p7
     replace q7 := eq_true q7
     go_wp2
     go_roundg k1
     case measure => have := HK1.out; omega
     case rel => exact ⟨(x3_1), (wrap64 (x5_1 + 1)), (by first | rfl | (simp; done) | (simp [*]; done)), (by first | rfl | (simp; done) | (simp [*]; done)), H', ⟨by have := HK1.out; omega⟩, ⟨by (with_reducible repeat (first | refine zai ?_ _ | refine zaj ?_ | refine zag ?_ _)); exact BK449.out⟩, ⟨by repeat with_reducible first | exact HB.out | apply zae | apply zac | apply zad | refine zah ?_ GE449.out⟩⟩
    rw [if_pos c52] at H
    have c52b0 : ((bt t451 x5_1) == 75) = true := beq_iff_eq.mpr c52
    have c52b1 : ((bt t451 x5_1) != 75) = false := bne_eq_false_iff_eq.mpr c52
    clear c52
    have H' := Aside0.mk H
    clear H
    have p7 : 0 ≤ (x5_1 : Int) := of_decide_eq_true (by first | (with_reducible assumption) | assumption)
    have q7 : x5_1 < (t451.size : Int) := of_decide_eq_true (by first | (with_reducible assumption) | assumption)
    have hx7 := bt_at t451 x5_1
    replace p7 := eq_true p7
    replace q7 := eq_true q7
    go_wp2
    go_loopg [3, 7] k1 (fun kq v3 v7 w' => ∃ (x3_2 : ByteArray) (x7_2 : Int), v3 = .string x3_2 ∧ v7 = .int .i64 x7_2 ∧ Aside0 (cofferref22_step.l2 kq x3_2 t451 x5_1 x7_2 a0_0 a0_1 a0_2 a0_3 l0_4 a0_5 a0_6 l0_7 = some r) ∧ Aside0 (kq ≤ k1) ∧ Aside0 (w'.heap[gb449]? = some (.cells #[.int .i64 a0_0, .string a0_1, .string a0_2, .string a0_3, (.slice A0_4 l0_4.length c0_4), .int .i64 a0_5, .int .i64 a0_6, (.slice A0_7 l0_7.length c0_7)] 55 (0, 0))) ∧ Aside0 (Below w.heap.size w w'))
    case atStart => exact ⟨(x3_1), (0), (by first | rfl | (simp; done) | (simp [*]; done)), (by first | rfl | (simp; done) | (simp [*]; done)), H', ⟨Nat.le_refl _⟩, ⟨by (with_reducible repeat (first | refine zai ?_ _ | refine zaj ?_ | refine zag ?_ _)); exact BK449.out⟩, ⟨by repeat with_reducible first | exact HB.out | apply zae | apply zac | apply zad | refine zah ?_ GE449.out⟩⟩
    case round =>
     clear H'
     try clear c1
     try clear c2
     try clear p2
     try clear c3
     try clear c4
     try clear p4
     try clear q4
     try clear hx4
     try clear c5
     try clear c5b0
     try clear c6
     try clear c6b0
     try clear p6
     try clear p7
     try clear q7
     try clear hx7
     try clear c8
     try clear c8b0
     try clear c8b1
     try clear c9
     try clear c9b0
     try clear c9b1
     try clear c9b2
     try clear c11
     try clear c11b0
     try clear c11b1
     try clear c11b2
     try clear c14
     try clear c14b0
     try clear c14b1
     try clear c15
     try clear c15b0
     try clear c15b1
     try clear c15b2
     try clear c17
     try clear c17b0
     try clear c17b1
     try clear c17b2
     try clear c20
     try clear c20b0
     try clear c20b1
     try clear c21
     try clear c21b0
     try clear c21b1
     try clear c21b2
     try clear c22
     try clear c23
     try clear c23b0
     try clear c23b1
     try clear c23b2
     try clear c26
     try clear c26b0
     try clear c26b1
     try clear c27
     try clear c27b0
     try clear c27b1
     try clear c27b2
     try clear c28
     try clear c29
     try clear c29b0
     try clear c29b1
     try clear c29b2
     try clear c32
     try clear c32b0
     try clear c32b1
     try clear c33
     try clear c33b0
     try clear c33b1
     try clear c33b2
     try clear c35
     try clear c35b0
     try clear c35b1
     try clear c35b2
     try clear c37
     try clear c38
     try clear c38b0
     try clear c38b1
     try clear c39
     try clear c39b0
     try clear c40
     try clear c40b0
     try clear c40b1
     try clear c40b2
     try clear c41
     try clear c41b0
     try clear c43
     try clear c43b0
     try clear c43b1
     try clear c43b2
     try clear c44
     try clear c44b0
     try clear c44b1
     try clear c44b2
     try clear p45
     try clear q45
     try clear hx45
     try clear c46
     try clear c46b0
     try clear c46b1
     try clear c46b2
     try clear c52
     try clear c52b0
     try clear c52b1
     try clear hcz12_0
     try clear hcz12_1
     try clear hcz12_2
     try clear hcz12_3
     try clear hcz12_4
     try clear hcz12_5
     try clear hcz12_6
     try clear hcz12_7
     try clear hcz18_0
     try clear hcz18_1
     try clear hcz18_2
     try clear hcz18_3
     try clear hcz18_4
     try clear hcz18_5
     try clear hcz18_6
     try clear hcz18_7
     try clear hcz24_0
     try clear hcz24_1
     try clear hcz24_2
     try clear hcz24_3
     try clear hcz24_4
     try clear hcz24_5
     try clear hcz24_6
     try clear hcz24_7
     try clear hcz30_0
     try clear hcz30_1
     try clear hcz30_2
     try clear hcz30_3
     try clear hcz30_4
     try clear hcz30_5
     try clear hcz30_6
     try clear hcz30_7
     try clear hcz36_0
     try clear hcz36_1
     try clear hcz36_2
     try clear hcz36_3
     try clear hcz36_4
     try clear hcz36_5
     try clear hcz36_6
     try clear hcz36_7
     try clear hcz47_0
     try clear hcz47_1
     try clear hcz47_2
     try clear hcz47_3
     try clear hcz47_4
     try clear hcz47_5
     try clear hcz47_6
     try clear hcz47_7
     try clear hcz4_0
     try clear hcz4_1
     try clear hcz4_2
     try clear hcz4_3
     try clear hcz4_4
     try clear hcz4_5
     try clear hcz4_6
     try clear hcz4_7
     try clear hcz51_0
     try clear hcz51_1
     try clear hcz51_2
     try clear hcz51_3
     try clear hcz51_4
     try clear hcz51_5
     try clear hcz51_6
     try clear hcz51_7
     try clear hfz12_0
     try clear hfz12_1
     try clear hfz12_2
     try clear hfz12_3
     try clear hfz12_4
     try clear hfz12_5
     try clear hfz12_6
     try clear hfz12_7
     try clear hfz18_0
     try clear hfz18_1
     try clear hfz18_2
     try clear hfz18_3
     try clear hfz18_4
     try clear hfz18_5
     try clear hfz18_6
     try clear hfz18_7
     try clear hfz24_0
     try clear hfz24_1
     try clear hfz24_2
     try clear hfz24_3
     try clear hfz24_4
     try clear hfz24_5
     try clear hfz24_6
     try clear hfz24_7
     try clear hfz30_0
     try clear hfz30_1
     try clear hfz30_2
     try clear hfz30_3
     try clear hfz30_4
     try clear hfz30_5
     try clear hfz30_6
     try clear hfz30_7
     try clear hfz36_0
     try clear hfz36_1
     try clear hfz36_2
     try clear hfz36_3
     try clear hfz36_4
     try clear hfz36_5
     try clear hfz36_6
     try clear hfz36_7
     try clear hfz47_0
     try clear hfz47_1
     try clear hfz47_2
     try clear hfz47_3
     try clear hfz47_4
     try clear hfz47_5
     try clear hfz47_6
     try clear hfz47_7
     try clear hfz4_0
     try clear hfz4_1
     try clear hfz4_2
     try clear hfz4_3
     try clear hfz4_4
     try clear hfz4_5
     try clear hfz4_6
     try clear hfz4_7
     try clear hfz51_0
     try clear hfz51_1
     try clear hfz51_2
     try clear hfz51_3
     try clear hfz51_4
     try clear hfz51_5
     try clear hfz51_6
     try clear hfz51_7
     try clear hx457_0
     try clear hx457_1
     try clear hx459_0
     try clear hx459_1
     try clear p2
     try clear p457
     try clear p459
     try clear p6
     try clear p7
     try clear q457
     try clear q459
     try clear q7
     obtain ⟨x3_2, x7_2, rfl, rfl, HA, HK2, BK449, HB⟩ := hrel
     cases gk with
     | zero => exact absurd HA.out (by simp [cofferref22_step.l2])
     | succ k2 =>
      have H := HA.out
      clear HA
      simp only [cofferref22_step.l2] at H
      by_cases c53 : x7_2 < (l0_7.length : Int)
      rotate_left
      ·
       rw [if_neg c53] at H
       have c53b0 : decide (x7_2 < (l0_7.length : Int)) = false := decide_eq_false c53
       clear c53
       have H' := Aside0.mk H
       clear H
       have hcz60_0 : wr.cell? ⟨gb449, 0, none⟩ = some (.int .i64 a0_0) := (zaa BK449.out 0).trans rfl
       have hcz60_1 : wr.cell? ⟨gb449, 1, none⟩ = some (.string a0_1) := (zaa BK449.out 1).trans rfl
       have hcz60_2 : wr.cell? ⟨gb449, 2, none⟩ = some (.string a0_2) := (zaa BK449.out 2).trans rfl
       have hcz60_3 : wr.cell? ⟨gb449, 3, none⟩ = some (.string a0_3) := (zaa BK449.out 3).trans rfl
       have hcz60_4 : wr.cell? ⟨gb449, 4, none⟩ = some (.slice A0_4 l0_4.length c0_4) := (zaa BK449.out 4).trans rfl
       have hcz60_5 : wr.cell? ⟨gb449, 5, none⟩ = some (.int .i64 a0_5) := (zaa BK449.out 5).trans rfl
       have hcz60_6 : wr.cell? ⟨gb449, 6, none⟩ = some (.int .i64 a0_6) := (zaa BK449.out 6).trans rfl
       have hcz60_7 : wr.cell? ⟨gb449, 7, none⟩ = some (.slice A0_7 l0_7.length c0_7) := (zaa BK449.out 7).trans rfl
       have hfz60_0 := zab BK449.out 0
       have hfz60_1 := zab BK449.out 1
       have hfz60_2 := zab BK449.out 2
       have hfz60_3 := zab BK449.out 3
       have hfz60_4 := zab BK449.out 4
       have hfz60_5 := zab BK449.out 5
       have hfz60_6 := zab BK449.out 6
       have hfz60_7 := zab BK449.out 7
       go_wp2
       go_roundg k2
       case measure => have := HK1.out; have := HK2.out; omega
       case rel => exact ⟨(x3_2), (wrap64 (x5_1 + 1)), (by first | rfl | (simp; done) | (simp [*]; done)), (by first | rfl | (simp; done) | (simp [*]; done)), H', ⟨by have := HK1.out; have := HK2.out; omega⟩, ⟨by (with_reducible repeat (first | refine zai ?_ _ | refine zaj ?_ | refine zag ?_ _)); exact BK449.out⟩, ⟨by repeat with_reducible first | exact HB.out | apply zae | apply zac | apply zad | refine zah ?_ GE449.out⟩⟩
      rw [if_pos c53] at H
      have c53b0 : decide (x7_2 < (l0_7.length : Int)) = true := decide_eq_true c53
      clear c53
      by_cases c54 : x3_2.size + 1 ≤ 9223372036854775807
      rotate_left
      ·
       rw [if_neg c54] at H
       exact absurd H (by simp)
      rw [if_pos c54] at H
      have c54b0 := eq_true c54
      have c54b1 : decide (x3_2.size + 1 ≤ 9223372036854775807) = true := decide_eq_true c54
      try have c54b2 : (9223372036854775807 < x3_2.size + 1) = False := eq_false (Nat.not_lt.2 c54)
      by_cases c55 : 0 ≤ x7_2
      rotate_left
      ·
       rw [if_neg c55] at H
       exact absurd H (by simp)
      rw [if_pos c55] at H
      have c55b0 : decide (0 ≤ x7_2) = true := decide_eq_true c55
      clear c55
      replace H := Option.bind_eq_some_iff.mp H
      obtain ⟨t462, A560, H⟩ := H
      replace H : (if (x3_2 ++ (⟨#[32]⟩ : ByteArray)).size + t462.size ≤ 9223372036854775807 then (cofferref22_step.l2 k2 ((x3_2 ++ (⟨#[32]⟩ : ByteArray)) ++ t462) t451 x5_1 (wrap64 (x7_2 + 1)) a0_0 a0_1 a0_2 a0_3 l0_4 a0_5 a0_6 l0_7) else (none)) = some r := H
      have A56 := Aside0.mk A560
      clear A560
      by_cases c57 : (x3_2 ++ (⟨#[32]⟩ : ByteArray)).size + t462.size ≤ 9223372036854775807
      rotate_left
      ·
       rw [if_neg c57] at H
       exact absurd H (by simp)
      rw [if_pos c57] at H
      have c57b0 := eq_true c57
      have c57b1 : decide ((x3_2 ++ (⟨#[32]⟩ : ByteArray)).size + t462.size ≤ 9223372036854775807) = true := decide_eq_true c57
      try have c57b2 : (9223372036854775807 < (x3_2 ++ (⟨#[32]⟩ : ByteArray)).size + t462.size) = False := eq_false (Nat.not_lt.2 c57)
      try have c57b3 : (9223372036854775807 < x3_2.size + 1 + t462.size) = False := eq_false (Nat.not_lt.2 (by have h_ := c57; simp only [ByteArray.size_append] at h_; exact h_))
      try have c57b4 : (9223372036854775807 < x3_2.size + 1 + t462.size) = False := eq_false (Nat.not_lt.2 (by have h_ := c57; simp only [ByteArray.size_append] at h_; exact h_))
      have H' := Aside0.mk H
      clear H
      have hcz58_0 : wr.cell? ⟨gb449, 0, none⟩ = some (.int .i64 a0_0) := (zaa BK449.out 0).trans rfl
      have hcz58_1 : wr.cell? ⟨gb449, 1, none⟩ = some (.string a0_1) := (zaa BK449.out 1).trans rfl
      have hcz58_2 : wr.cell? ⟨gb449, 2, none⟩ = some (.string a0_2) := (zaa BK449.out 2).trans rfl
      have hcz58_3 : wr.cell? ⟨gb449, 3, none⟩ = some (.string a0_3) := (zaa BK449.out 3).trans rfl
      have hcz58_4 : wr.cell? ⟨gb449, 4, none⟩ = some (.slice A0_4 l0_4.length c0_4) := (zaa BK449.out 4).trans rfl
      have hcz58_5 : wr.cell? ⟨gb449, 5, none⟩ = some (.int .i64 a0_5) := (zaa BK449.out 5).trans rfl
      have hcz58_6 : wr.cell? ⟨gb449, 6, none⟩ = some (.int .i64 a0_6) := (zaa BK449.out 6).trans rfl
      have hcz58_7 : wr.cell? ⟨gb449, 7, none⟩ = some (.slice A0_7 l0_7.length c0_7) := (zaa BK449.out 7).trans rfl
      have hfz58_0 := zab BK449.out 0
      have hfz58_1 := zab BK449.out 1
      have hfz58_2 := zab BK449.out 2
      have hfz58_3 := zab BK449.out 3
      have hfz58_4 := zab BK449.out 4
      have hfz58_5 := zab BK449.out 5
      have hfz58_6 := zab BK449.out 6
      have hfz58_7 := zab BK449.out 7
      have p461 : 0 ≤ (x7_2 : Int) := of_decide_eq_true (by first | (with_reducible assumption) | assumption)
      have q461 : x7_2 < (l0_7.length : Int) := of_decide_eq_true (by first | (with_reducible assumption) | assumption)
      obtain ⟨ad461, e461, hx461_0⟩ := Kd.at_int HR0_7.out x7_2 p461 q461
      cases e461
      replace hx461_0 := co HB.out hx461_0
      replace p461 := eq_true p461
      replace q461 := eq_true q461
      go_wp2_with (first | ((with_reducible refine zay (f := 22) rfl ?_); refine goesL_ (some 107) rfl rfl Tryd.func22 (by kernel_rfl) rfl #[.int .i64 (rd l0_7 x7_2)] rfl (by (try simp only [List.map_toArray, List.map_cons, List.map_nil]); first | done | rfl | (simp only [List.length_drop, List.length_take]; rfl)) ?_; (with_reducible refine (strconv_Itoa.calls (rd l0_7 x7_2) t462 _ ?side1 A56.out).mono ?_); (case side1 => exact zba HT.out (by repeat with_reducible first | exact HB.out | apply zae | apply zac | apply zad | refine zah ?_ GE449.out)); rintro e w59 ⟨rfl, hb⟩; refine ⟨_, rfl, ?_⟩; have n0_ := Aside0.mk (zaz (g := gb449) (o := .cells #[.int .i64 a0_0, .string a0_1, .string a0_2, .string a0_3, .slice A0_4 l0_4.length c0_4, .int .i64 a0_5, .int .i64 a0_6, .slice (some ad461) l0_7.length c0_7] 55 (0, 0)) (by (with_reducible repeat (first | refine zai ?_ _ | refine zaj ?_ | refine zag ?_ _)); exact BK449.out) hb); have n1_ := Aside0.mk (zap (by repeat with_reducible first | exact HB.out | apply zae | apply zac | apply zad | refine zah ?_ GE449.out) hb); clear BK449; clear HB; have BK449 := n0_; have HB := n1_; clear n0_ n1_; (try clear hb); (try clear hb2); (try clear hk); (try clear hi)))
      go_roundg k2
      case measure => have := HK1.out; have := HK2.out; omega
      case rel => exact ⟨((x3_2 ++ (⟨#[32]⟩ : ByteArray)) ++ t462), (wrap64 (x7_2 + 1)), (by first | rfl | (simp; done) | (simp [*]; done)), (by first | rfl | (simp; done) | (simp [*]; done)), H', ⟨by have := HK1.out; have := HK2.out; omega⟩, ⟨by (with_reducible repeat (first | refine zai ?_ _ | refine zaj ?_ | refine zag ?_ _)); exact BK449.out⟩, ⟨by repeat with_reducible first | exact HB.out | apply zae | apply zac | apply zad | refine zah ?_ GE449.out⟩⟩
   rw [if_pos c38] at H
   have c38b0 : ((bt t451 x5_1) == 77) = true := beq_iff_eq.mpr c38
   have c38b1 : ((bt t451 x5_1) != 77) = false := bne_eq_false_iff_eq.mpr c38
   clear c38
   have H' := Aside0.mk H
   clear H
   have p7 : 0 ≤ (x5_1 : Int) := of_decide_eq_true (by first | (with_reducible assumption) | assumption)
   have q7 : x5_1 < (t451.size : Int) := of_decide_eq_true (by first | (with_reducible assumption) | assumption)
   have hx7 := bt_at t451 x5_1
   replace p7 := eq_true p7
   replace q7 := eq_true q7
   go_wp2
   go_loopg [3, 6] k1 (fun kq v3 v6 w' => ∃ (x3_2 : ByteArray) (x6_2 : Int), v3 = .string x3_2 ∧ v6 = .int .i64 x6_2 ∧ Aside0 (cofferref22_step.l1 kq x3_2 t451 x5_1 x6_2 a0_0 a0_1 a0_2 a0_3 l0_4 a0_5 a0_6 l0_7 = some r) ∧ Aside0 (kq ≤ k1) ∧ Aside0 (w'.heap[gb449]? = some (.cells #[.int .i64 a0_0, .string a0_1, .string a0_2, .string a0_3, (.slice A0_4 l0_4.length c0_4), .int .i64 a0_5, .int .i64 a0_6, (.slice A0_7 l0_7.length c0_7)] 55 (0, 0))) ∧ Aside0 (Below w.heap.size w w'))
   case atStart => exact ⟨(x3_1), (0), (by first | rfl | (simp; done) | (simp [*]; done)), (by first | rfl | (simp; done) | (simp [*]; done)), H', ⟨Nat.le_refl _⟩, ⟨by (with_reducible repeat (first | refine zai ?_ _ | refine zaj ?_ | refine zag ?_ _)); exact BK449.out⟩, ⟨by repeat with_reducible first | exact HB.out | apply zae | apply zac | apply zad | refine zah ?_ GE449.out⟩⟩
   case round =>
    clear H'
    try clear c1
    try clear c2
    try clear p2
    try clear c3
    try clear c5
    try clear c5b0
    try clear c6
    try clear c6b0
    try clear p6
    try clear p7
    try clear q7
    try clear hx7
    try clear c8
    try clear c8b0
    try clear c8b1
    try clear c9
    try clear c9b0
    try clear c9b1
    try clear c9b2
    try clear c11
    try clear c11b0
    try clear c11b1
    try clear c11b2
    try clear c14
    try clear c14b0
    try clear c14b1
    try clear c15
    try clear c15b0
    try clear c15b1
    try clear c15b2
    try clear c17
    try clear c17b0
    try clear c17b1
    try clear c17b2
    try clear c20
    try clear c20b0
    try clear c20b1
    try clear c21
    try clear c21b0
    try clear c21b1
    try clear c21b2
    try clear c22
    try clear c23
    try clear c23b0
    try clear c23b1
    try clear c23b2
    try clear c26
    try clear c26b0
    try clear c26b1
    try clear c27
    try clear c27b0
    try clear c27b1
    try clear c27b2
    try clear c28
    try clear c29
    try clear c29b0
    try clear c29b1
    try clear c29b2
    try clear c32
    try clear c32b0
    try clear c32b1
    try clear c33
    try clear c33b0
    try clear c33b1
    try clear c33b2
    try clear c35
    try clear c35b0
    try clear c35b1
    try clear c35b2
    try clear c37
    try clear c38
    try clear c38b0
    try clear c38b1
    try clear hcz12_0
    try clear hcz12_1
    try clear hcz12_2
    try clear hcz12_3
    try clear hcz12_4
    try clear hcz12_5
    try clear hcz12_6
    try clear hcz12_7
    try clear hcz18_0
    try clear hcz18_1
    try clear hcz18_2
    try clear hcz18_3
    try clear hcz18_4
    try clear hcz18_5
    try clear hcz18_6
    try clear hcz18_7
    try clear hcz24_0
    try clear hcz24_1
    try clear hcz24_2
    try clear hcz24_3
    try clear hcz24_4
    try clear hcz24_5
    try clear hcz24_6
    try clear hcz24_7
    try clear hcz30_0
    try clear hcz30_1
    try clear hcz30_2
    try clear hcz30_3
    try clear hcz30_4
    try clear hcz30_5
    try clear hcz30_6
    try clear hcz30_7
    try clear hcz36_0
    try clear hcz36_1
    try clear hcz36_2
    try clear hcz36_3
    try clear hcz36_4
    try clear hcz36_5
    try clear hcz36_6
    try clear hcz36_7
    try clear hcz4_0
    try clear hcz4_1
    try clear hcz4_2
    try clear hcz4_3
    try clear hcz4_4
    try clear hcz4_5
    try clear hcz4_6
    try clear hcz4_7
    try clear hfz12_0
    try clear hfz12_1
    try clear hfz12_2
    try clear hfz12_3
    try clear hfz12_4
    try clear hfz12_5
    try clear hfz12_6
    try clear hfz12_7
    try clear hfz18_0
    try clear hfz18_1
    try clear hfz18_2
    try clear hfz18_3
    try clear hfz18_4
    try clear hfz18_5
    try clear hfz18_6
    try clear hfz18_7
    try clear hfz24_0
    try clear hfz24_1
    try clear hfz24_2
    try clear hfz24_3
    try clear hfz24_4
    try clear hfz24_5
    try clear hfz24_6
    try clear hfz24_7
    try clear hfz30_0
    try clear hfz30_1
    try clear hfz30_2
    try clear hfz30_3
    try clear hfz30_4
    try clear hfz30_5
    try clear hfz30_6
    try clear hfz30_7
    try clear hfz36_0
    try clear hfz36_1
    try clear hfz36_2
    try clear hfz36_3
    try clear hfz36_4
    try clear hfz36_5
    try clear hfz36_6
    try clear hfz36_7
    try clear hfz4_0
    try clear hfz4_1
    try clear hfz4_2
    try clear hfz4_3
    try clear hfz4_4
    try clear hfz4_5
    try clear hfz4_6
    try clear hfz4_7
    try clear p2
    try clear p7
    try clear q7
    obtain ⟨x3_2, x6_2, rfl, rfl, HA, HK2, BK449, HB⟩ := hrel
    cases gk with
    | zero => exact absurd HA.out (by simp [cofferref22_step.l1])
    | succ k2 =>
     have H := HA.out
     clear HA
     simp only [cofferref22_step.l1] at H
     by_cases c39 : x6_2 < (l0_4.length : Int)
     rotate_left
     ·
      rw [if_neg c39] at H
      have c39b0 : decide (x6_2 < (l0_4.length : Int)) = false := decide_eq_false c39
      clear c39
      have H' := Aside0.mk H
      clear H
      have hcz51_0 : wr.cell? ⟨gb449, 0, none⟩ = some (.int .i64 a0_0) := (zaa BK449.out 0).trans rfl
      have hcz51_1 : wr.cell? ⟨gb449, 1, none⟩ = some (.string a0_1) := (zaa BK449.out 1).trans rfl
      have hcz51_2 : wr.cell? ⟨gb449, 2, none⟩ = some (.string a0_2) := (zaa BK449.out 2).trans rfl
      have hcz51_3 : wr.cell? ⟨gb449, 3, none⟩ = some (.string a0_3) := (zaa BK449.out 3).trans rfl
      have hcz51_4 : wr.cell? ⟨gb449, 4, none⟩ = some (.slice A0_4 l0_4.length c0_4) := (zaa BK449.out 4).trans rfl
      have hcz51_5 : wr.cell? ⟨gb449, 5, none⟩ = some (.int .i64 a0_5) := (zaa BK449.out 5).trans rfl
      have hcz51_6 : wr.cell? ⟨gb449, 6, none⟩ = some (.int .i64 a0_6) := (zaa BK449.out 6).trans rfl
      have hcz51_7 : wr.cell? ⟨gb449, 7, none⟩ = some (.slice A0_7 l0_7.length c0_7) := (zaa BK449.out 7).trans rfl
      have hfz51_0 := zab BK449.out 0
      have hfz51_1 := zab BK449.out 1
      have hfz51_2 := zab BK449.out 2
      have hfz51_3 := zab BK449.out 3
      have hfz51_4 := zab BK449.out 4
      have hfz51_5 := zab BK449.out 5
      have hfz51_6 := zab BK449.out 6
      have hfz51_7 := zab BK449.out 7
      go_wp2
      go_roundg k2
      case measure => have := HK1.out; have := HK2.out; omega
      case rel => exact ⟨(x3_2), (wrap64 (x5_1 + 1)), (by first | rfl | (simp; done) | (simp [*]; done)), (by first | rfl | (simp; done) | (simp [*]; done)), H', ⟨by have := HK1.out; have := HK2.out; omega⟩, ⟨by (with_reducible repeat (first | refine zai ?_ _ | refine zaj ?_ | refine zag ?_ _)); exact BK449.out⟩, ⟨by repeat with_reducible first | exact HB.out | apply zae | apply zac | apply zad | refine zah ?_ GE449.out⟩⟩
     rw [if_pos c39] at H
     have c39b0 : decide (x6_2 < (l0_4.length : Int)) = true := decide_eq_true c39
     clear c39
     by_cases c40 : x3_2.size + 1 ≤ 9223372036854775807
     rotate_left
     ·
      rw [if_neg c40] at H
      exact absurd H (by simp)
     rw [if_pos c40] at H
     have c40b0 := eq_true c40
     have c40b1 : decide (x3_2.size + 1 ≤ 9223372036854775807) = true := decide_eq_true c40
     try have c40b2 : (9223372036854775807 < x3_2.size + 1) = False := eq_false (Nat.not_lt.2 c40)
     by_cases c41 : 0 ≤ x6_2
     rotate_left
     ·
      rw [if_neg c41] at H
      exact absurd H (by simp)
     rw [if_pos c41] at H
     have c41b0 : decide (0 ≤ x6_2) = true := decide_eq_true c41
     clear c41
     replace H := Option.bind_eq_some_iff.mp H
     obtain ⟨t458, A420, H⟩ := H
     replace H : (if (x3_2 ++ (⟨#[32]⟩ : ByteArray)).size + t458.size ≤ 9223372036854775807 then (if ((x3_2 ++ (⟨#[32]⟩ : ByteArray)) ++ t458).size + 1 ≤ 9223372036854775807 then ((cofferref22_Quote.f k2 ((rd_T38 l0_4 x6_2).f1)).bind fun t460 => (if (((x3_2 ++ (⟨#[32]⟩ : ByteArray)) ++ t458) ++ (⟨#[32]⟩ : ByteArray)).size + t460.size ≤ 9223372036854775807 then (cofferref22_step.l1 k2 ((((x3_2 ++ (⟨#[32]⟩ : ByteArray)) ++ t458) ++ (⟨#[32]⟩ : ByteArray)) ++ t460) t451 x5_1 (wrap64 (x6_2 + 1)) a0_0 a0_1 a0_2 a0_3 l0_4 a0_5 a0_6 l0_7) else (none))) else (none)) else (none)) = some r := H
     have A42 := Aside0.mk A420
     clear A420
     by_cases c43 : (x3_2 ++ (⟨#[32]⟩ : ByteArray)).size + t458.size ≤ 9223372036854775807
     rotate_left
     ·
      rw [if_neg c43] at H
      exact absurd H (by simp)
     rw [if_pos c43] at H
     have c43b0 := eq_true c43
     have c43b1 : decide ((x3_2 ++ (⟨#[32]⟩ : ByteArray)).size + t458.size ≤ 9223372036854775807) = true := decide_eq_true c43
     try have c43b2 : (9223372036854775807 < (x3_2 ++ (⟨#[32]⟩ : ByteArray)).size + t458.size) = False := eq_false (Nat.not_lt.2 c43)
     try have c43b3 : (9223372036854775807 < x3_2.size + 1 + t458.size) = False := eq_false (Nat.not_lt.2 (by have h_ := c43; simp only [ByteArray.size_append] at h_; exact h_))
     try have c43b4 : (9223372036854775807 < x3_2.size + 1 + t458.size) = False := eq_false (Nat.not_lt.2 (by have h_ := c43; simp only [ByteArray.size_append] at h_; exact h_))
     by_cases c44 : ((x3_2 ++ (⟨#[32]⟩ : ByteArray)) ++ t458).size + 1 ≤ 9223372036854775807
     rotate_left
     ·
      rw [if_neg c44] at H
      exact absurd H (by simp)
     rw [if_pos c44] at H
     have c44b0 := eq_true c44
     have c44b1 : decide (((x3_2 ++ (⟨#[32]⟩ : ByteArray)) ++ t458).size + 1 ≤ 9223372036854775807) = true := decide_eq_true c44
     try have c44b2 : (9223372036854775807 < ((x3_2 ++ (⟨#[32]⟩ : ByteArray)) ++ t458).size + 1) = False := eq_false (Nat.not_lt.2 c44)
     try have c44b3 : (9223372036854775807 < x3_2.size + 1 + t458.size + 1) = False := eq_false (Nat.not_lt.2 (by have h_ := c44; simp only [ByteArray.size_append] at h_; exact h_))
     try have c44b4 : (9223372036854775807 < x3_2.size + 1 + t458.size + 1) = False := eq_false (Nat.not_lt.2 (by have h_ := c44; simp only [ByteArray.size_append] at h_; exact h_))
     replace H := Option.bind_eq_some_iff.mp H
     obtain ⟨t460, A450, H⟩ := H
     replace H : (if (((x3_2 ++ (⟨#[32]⟩ : ByteArray)) ++ t458) ++ (⟨#[32]⟩ : ByteArray)).size + t460.size ≤ 9223372036854775807 then (cofferref22_step.l1 k2 ((((x3_2 ++ (⟨#[32]⟩ : ByteArray)) ++ t458) ++ (⟨#[32]⟩ : ByteArray)) ++ t460) t451 x5_1 (wrap64 (x6_2 + 1)) a0_0 a0_1 a0_2 a0_3 l0_4 a0_5 a0_6 l0_7) else (none)) = some r := H
     have A45 := Aside0.mk A450
     clear A450
     by_cases c46 : (((x3_2 ++ (⟨#[32]⟩ : ByteArray)) ++ t458) ++ (⟨#[32]⟩ : ByteArray)).size + t460.size ≤ 9223372036854775807
     rotate_left
     ·
      rw [if_neg c46] at H
      exact absurd H (by simp)
     rw [if_pos c46] at H
     have c46b0 := eq_true c46
     have c46b1 : decide ((((x3_2 ++ (⟨#[32]⟩ : ByteArray)) ++ t458) ++ (⟨#[32]⟩ : ByteArray)).size + t460.size ≤ 9223372036854775807) = true := decide_eq_true c46
     try have c46b2 : (9223372036854775807 < (((x3_2 ++ (⟨#[32]⟩ : ByteArray)) ++ t458) ++ (⟨#[32]⟩ : ByteArray)).size + t460.size) = False := eq_false (Nat.not_lt.2 c46)
     try have c46b3 : (9223372036854775807 < x3_2.size + 1 + t458.size + 1 + t460.size) = False := eq_false (Nat.not_lt.2 (by have h_ := c46; simp only [ByteArray.size_append] at h_; exact h_))
     try have c46b4 : (9223372036854775807 < x3_2.size + 1 + t458.size + 1 + t460.size) = False := eq_false (Nat.not_lt.2 (by have h_ := c46; simp only [ByteArray.size_append] at h_; exact h_))
     have H' := Aside0.mk H
     clear H
     have hcz47_0 : wr.cell? ⟨gb449, 0, none⟩ = some (.int .i64 a0_0) := (zaa BK449.out 0).trans rfl
     have hcz47_1 : wr.cell? ⟨gb449, 1, none⟩ = some (.string a0_1) := (zaa BK449.out 1).trans rfl
     have hcz47_2 : wr.cell? ⟨gb449, 2, none⟩ = some (.string a0_2) := (zaa BK449.out 2).trans rfl
     have hcz47_3 : wr.cell? ⟨gb449, 3, none⟩ = some (.string a0_3) := (zaa BK449.out 3).trans rfl
     have hcz47_4 : wr.cell? ⟨gb449, 4, none⟩ = some (.slice A0_4 l0_4.length c0_4) := (zaa BK449.out 4).trans rfl
     have hcz47_5 : wr.cell? ⟨gb449, 5, none⟩ = some (.int .i64 a0_5) := (zaa BK449.out 5).trans rfl
     have hcz47_6 : wr.cell? ⟨gb449, 6, none⟩ = some (.int .i64 a0_6) := (zaa BK449.out 6).trans rfl
     have hcz47_7 : wr.cell? ⟨gb449, 7, none⟩ = some (.slice A0_7 l0_7.length c0_7) := (zaa BK449.out 7).trans rfl
     have hfz47_0 := zab BK449.out 0
     have hfz47_1 := zab BK449.out 1
     have hfz47_2 := zab BK449.out 2
     have hfz47_3 := zab BK449.out 3
     have hfz47_4 := zab BK449.out 4
     have hfz47_5 := zab BK449.out 5
     have hfz47_6 := zab BK449.out 6
     have hfz47_7 := zab BK449.out 7
     try go_wp2
     have n0_ := Aside0.mk (zaj BK449.out)
     have n1_ := Aside0.mk (zad HB.out)
     clear BK449
     clear HB
     have BK449 := n0_
     have HB := n1_
     clear n0_ n1_
     have p457 : 0 ≤ (x6_2 : Int) := of_decide_eq_true (by first | (with_reducible assumption) | assumption)
     have q457 : x6_2 < (l0_4.length : Int) := of_decide_eq_true (by first | (with_reducible assumption) | assumption)
     obtain ⟨ad457, e457, hx457_0, hx457_1⟩ := at_T38 HR0_4.out x6_2 p457 q457
     have hw457_1 := hx457_1
     have hw457_0 := hx457_0
     cases e457
     replace hx457_0 := co HB.out hx457_0
     replace hx457_1 := co HB.out hx457_1
     replace p457 := eq_true p457
     replace q457 := eq_true q457
     have p459 : 0 ≤ (x6_2 : Int) := of_decide_eq_true (by first | (with_reducible assumption) | assumption)
     have q459 : x6_2 < (l0_4.length : Int) := of_decide_eq_true (by first | (with_reducible assumption) | assumption)
     obtain ⟨ad459, e459, hx459_0, hx459_1⟩ := at_T38 HR0_4.out x6_2 p459 q459
     have hw459_1 := hx459_1
     have hw459_0 := hx459_0
     obtain rfl : ad457 = ad459 := (by injection e459)
     replace hx459_0 := co HB.out hx459_0
     replace hx459_1 := co HB.out hx459_1
     replace p459 := eq_true p459
     replace q459 := eq_true q459
     refine start_ (n := 20) (S := fun w' => w'.cell? ⟨gb449, 0, none⟩ = some (.int .i64 a0_0) ∧ w'.cell? ⟨gb449, 1, none⟩ = some (.string a0_1) ∧ w'.cell? ⟨gb449, 2, none⟩ = some (.string a0_2) ∧ w'.cell? ⟨gb449, 3, none⟩ = some (.string a0_3) ∧ w'.cell? ⟨gb449, 4, none⟩ = some (.slice (some ad457) l0_4.length c0_4) ∧ w'.cell? ⟨gb449, 5, none⟩ = some (.int .i64 a0_5) ∧ w'.cell? ⟨gb449, 6, none⟩ = some (.int .i64 a0_6) ∧ w'.cell? ⟨gb449, 7, none⟩ = some (.slice A0_7 l0_7.length c0_7) ∧ w'.cell? (ad457.add ((x6_2).toNat * 2)) = some (.string ((rd_T38 l0_4 x6_2).f0)) ∧ w'.cell? ⟨(ad457.add ((x6_2).toNat * 2)).block, (ad457.add ((x6_2).toNat * 2)).off + 1, none⟩ = some (.string ((rd_T38 l0_4 x6_2).f1)) ∧ w'.cell? (ad457.add ((x6_2).toNat * 2)) = some (.string ((rd_T38 l0_4 x6_2).f0)) ∧ w'.cell? ⟨(ad457.add ((x6_2).toNat * 2)).block, (ad457.add ((x6_2).toNat * 2)).off + 1, none⟩ = some (.string ((rd_T38 l0_4 x6_2).f1))) (ds := []) #[false, false, false, false, false, false, false, false, false, false, false, false, false, false, false, false, false, false, false, false] (by kernel_rfl) rfl rfl ⟨(zaa BK449.out 0).trans rfl, (zaa BK449.out 1).trans rfl, (zaa BK449.out 2).trans rfl, (zaa BK449.out 3).trans rfl, (zaa BK449.out 4).trans rfl, (zaa BK449.out 5).trans rfl, (zaa BK449.out 6).trans rfl, (zaa BK449.out 7).trans rfl, (co HB.out hw457_0), (co HB.out hw457_1), (co HB.out hw459_0), (co HB.out hw459_1)⟩ (fun hHeld => ?_); refine zbp cofferref22_step.tab20 cofferref22_step.bits20 (fun HT_ HW_ => ?_)
     generalize wr.drew = w48 at BK449 HB hx457_0 hx457_1 hx459_0 hx459_1 hHeld ⊢
     refine pure_ (i := 0) (N := some 72) (v := ?_) (a' := ?_) (tm 20 1) rfl rfl (zak HT_.out (by kernel_rfl)) (fun _ _ _ h => h) (Or.inl ⟨by rfl, ?_⟩) ?_ ?_
     rotate_left
     ·
      intro w'
      go_simp
      with_reducible rfl
     rotate_left
     ·
      simp only [aw]
      rfl
     refine pure_ (i := 1) (N := some 73) (v := ?_) (a' := ?_) (tm 20 3) rfl rfl (zak HT_.out (by kernel_rfl)) (fun _ _ _ h => h) (Or.inl ⟨by rfl, ?_⟩) ?_ ?_
     rotate_left
     ·
      intro w'
      go_simp
      with_reducible rfl
     rotate_left
     ·
      simp only [aw]
      rfl
     refine pure_ (i := 2) (N := some 74) (v := ?_) (a' := ?_) (tm 20 7) rfl rfl (zak HT_.out (by kernel_rfl)) (fun _ _ _ h => h) (Or.inl ⟨by rfl, ?_⟩) ?_ ?_
     rotate_left
     ·
      intro w'
      go_simp
      with_reducible rfl
     rotate_left
     ·
      simp only [aw]
      rfl
     refine pure_ (i := 4) (N := some 76) (v := ?_) (a' := ?_) (tm 20 23) rfl rfl (zak HT_.out (by kernel_rfl)) (fun _ _ _ h => h) (Or.inl ⟨by rfl, ?_⟩) ?_ ?_
     rotate_left
     ·
      intro w'
      go_simp
      with_reducible rfl
     rotate_left
     ·
      simp only [aw]
      rfl
     refine pure_ (i := 11) (N := some 83) (v := ?_) (a' := ?_) (tm 20 2071) rfl rfl (zak HT_.out (by kernel_rfl)) (fun _ _ _ h => h) (Or.inl ⟨by rfl, ?_⟩) ?_ ?_
     rotate_left
     ·
      intro w'
      go_simp
      with_reducible rfl
     rotate_left
     ·
      simp only [aw]
      rfl
     refine pure_ (i := 13) (N := some 85) (v := ?_) (a' := ?_) (tm 20 10263) rfl rfl (zak HT_.out (by kernel_rfl)) (fun _ _ _ h => h) (Or.inl ⟨by rfl, ?_⟩) ?_ ?_
     rotate_left
     ·
      intro w'
      go_simp
      with_reducible rfl
     rotate_left
     ·
      simp only [aw]
      rfl
     refine take_ (i := 3) (N := some 75) (v := ?_) (a' := ?_) #[true, true, true, true, true, false, false, false, false, false, false, true, false, true, false, false, false, false, false, false] rfl rfl (zat HT_.out HW_.out (by kernel_rfl)) (fun _ _ _ h => h) (Or.inl ⟨by rfl, ?_⟩) hHeld ?_ ?_
     rotate_left
     ·
      rintro w' ⟨s0, s1, s2, s3, s4, s5, s6, s7, s8, s9, s10, s11⟩
      go_simp
      with_reducible rfl
     rotate_left
     ·
      simp only [aw]
      rfl
     refine pure_ (i := 5) (N := some 77) (v := ?_) (a' := ?_) (tm 20 10303) rfl rfl (zak HT_.out (by kernel_rfl)) (fun _ _ _ h => h) (Or.inl ⟨by rfl, ?_⟩) ?_ ?_
     rotate_left
     ·
      intro w'
      go_simp
      with_reducible rfl
     rotate_left
     ·
      simp only [aw]
      rfl
     refine pure_ (i := 6) (N := some 78) (v := ?_) (a' := ?_) (tm 20 10367) rfl rfl (zak HT_.out (by kernel_rfl)) (fun _ _ _ h => h) (Or.inl ⟨by rfl, ?_⟩) ?_ ?_
     rotate_left
     ·
      intro w'
      go_simp
      with_reducible rfl
     rotate_left
     ·
      simp only [aw]
      rfl
     refine take_ (i := 7) (N := some 79) (v := ?_) (a' := ?_) #[true, true, true, true, true, true, true, true, false, false, false, true, false, true, false, false, false, false, false, false] rfl rfl (zat HT_.out HW_.out (by kernel_rfl)) (fun _ _ _ h => h) (Or.inl ⟨by rfl, ?_⟩) hHeld ?_ ?_
     rotate_left
     ·
      rintro w' ⟨s0, s1, s2, s3, s4, s5, s6, s7, s8, s9, s10, s11⟩
      go_simp
      with_reducible rfl
     rotate_left
     ·
      simp only [aw]
      rfl
     refine take_ (i := 12) (N := some 84) (v := ?_) (a' := ?_) #[true, true, true, true, true, true, true, true, false, false, false, true, true, true, false, false, false, false, false, false] rfl rfl (zat HT_.out HW_.out (by kernel_rfl)) (fun _ _ _ h => h) (Or.inl ⟨by rfl, ?_⟩) hHeld ?_ ?_
     rotate_left
     ·
      rintro w' ⟨s0, s1, s2, s3, s4, s5, s6, s7, s8, s9, s10, s11⟩
      go_simp
      with_reducible rfl
     rotate_left
     ·
      simp only [aw]
      rfl
     refine pure_ (i := 14) (N := some 86) (v := ?_) (a' := ?_) (tm 20 30975) rfl rfl (zak HT_.out (by kernel_rfl)) (fun _ _ _ h => h) (Or.inl ⟨by rfl, ?_⟩) ?_ ?_
     rotate_left
     ·
      intro w'
      go_simp
      with_reducible rfl
     rotate_left
     ·
      simp only [aw]
      rfl
     refine pure_ (i := 15) (N := some 87) (v := ?_) (a' := ?_) (tm 20 63743) rfl rfl (zak HT_.out (by kernel_rfl)) (fun _ _ _ h => h) (Or.inl ⟨by rfl, ?_⟩) ?_ ?_
     rotate_left
     ·
      intro w'
      go_simp
      with_reducible rfl
     rotate_left
     ·
      simp only [aw]
      rfl
     refine take_ (i := 16) (N := some 88) (v := ?_) (a' := ?_) #[true, true, true, true, true, true, true, true, false, false, false, true, true, true, true, true, true, false, false, false] rfl rfl (zat HT_.out HW_.out (by kernel_rfl)) (fun _ _ _ h => h) (Or.inl ⟨by rfl, ?_⟩) hHeld ?_ ?_
     rotate_left
     ·
      rintro w' ⟨s0, s1, s2, s3, s4, s5, s6, s7, s8, s9, s10, s11⟩
      go_simp
      with_reducible rfl
     rotate_left
     ·
      simp only [aw]
      rfl
     refine one_ (i := 8) (N := some 80) (tm 20 129535) rfl rfl (one_of HT_.out (by kernel_rfl)) (by decide) (fun K hK => ?_)
     refine goes_ Tryd.func14 (by kernel_rfl) rfl #[.string ((rd_T38 l0_4 x6_2).f0)] (by rfl) rfl rfl (by (try simp only [List.map_toArray, List.map_cons, List.map_nil]); first | done | rfl | (simp only [List.length_drop, List.length_take]; rfl)) ?_
     with_reducible refine (cofferref22_Quote.calls k2 ((rd_T38 l0_4 x6_2).f0) t458 _ A42.out).mono ?_
     rintro e w49 ⟨rfl, hb⟩
     refine ⟨_, rfl, ?_⟩
     have n0_ := Aside0.mk (zaz (g := gb449) (o := .cells #[.int .i64 a0_0, .string a0_1, .string a0_2, .string a0_3, .slice (some ad457) l0_4.length c0_4, .int .i64 a0_5, .int .i64 a0_6, .slice A0_7 l0_7.length c0_7] 55 (0, 0)) (by (with_reducible repeat (first | refine zai ?_ _ | refine zaj ?_ | refine zag ?_ _)); exact BK449.out) hb)
     have n1_ := Aside0.mk (zap (by repeat with_reducible first | exact HB.out | apply zae | apply zac | apply zad | refine zah ?_ GE449.out) hb)
     clear BK449
     clear HB
     have BK449 := n0_
     have HB := n1_
     clear n0_ n1_
     (try clear hb)
     (try clear hb2)
     (try clear hk)
     (try clear hi)
     refine hK.out _ _ ⟨(zaa BK449.out 0).trans rfl, (zaa BK449.out 1).trans rfl, (zaa BK449.out 2).trans rfl, (zaa BK449.out 3).trans rfl, (zaa BK449.out 4).trans rfl, (zaa BK449.out 5).trans rfl, (zaa BK449.out 6).trans rfl, (zaa BK449.out 7).trans rfl, (co HB.out hw457_0), (co HB.out hw457_1), (co HB.out hw459_0), (co HB.out hw459_1)⟩ (fun hHeld => ?_)
     clear hK K
     refine norm_ (a' := ?_) ?_ ?_
     rotate_left
     ·
      show Act.put _ (some 80) _ = _
      simp only [aw]
      rfl
     refine pure_ (i := 9) (N := some 81) (v := ?_) (a' := ?_) (tm 20 130047) rfl rfl (zak HT_.out (by kernel_rfl)) (fun _ _ _ h => h) (Or.inl ⟨by rfl, ?_⟩) ?_ ?_
     rotate_left
     ·
      intro w'
      go_simp
      with_reducible rfl
     rotate_left
     ·
      simp only [aw]
      rfl
     refine pure_ (i := 10) (N := some 82) (v := ?_) (a' := ?_) (tm 20 131071) rfl rfl (zak HT_.out (by kernel_rfl)) (fun _ _ _ h => h) (Or.inl ⟨by rfl, ?_⟩) ?_ ?_
     rotate_left
     ·
      intro w'
      go_simp
      with_reducible rfl
     rotate_left
     ·
      simp only [aw]
      rfl
     refine one_ (i := 17) (N := some 89) (tm 20 262143) rfl rfl (one_of HT_.out (by kernel_rfl)) (by decide) (fun K hK => ?_)
     refine goes_ Tryd.func14 (by kernel_rfl) rfl #[.string ((rd_T38 l0_4 x6_2).f1)] (by rfl) rfl rfl (by (try simp only [List.map_toArray, List.map_cons, List.map_nil]); first | done | rfl | (simp only [List.length_drop, List.length_take]; rfl)) ?_
     with_reducible refine (cofferref22_Quote.calls k2 ((rd_T38 l0_4 x6_2).f1) t460 _ A45.out).mono ?_
     rintro e w50 ⟨rfl, hb⟩
     refine ⟨_, rfl, ?_⟩
     have n0_ := Aside0.mk (zaz (g := gb449) (o := .cells #[.int .i64 a0_0, .string a0_1, .string a0_2, .string a0_3, .slice (some ad457) l0_4.length c0_4, .int .i64 a0_5, .int .i64 a0_6, .slice A0_7 l0_7.length c0_7] 55 (0, 0)) (by (with_reducible repeat (first | refine zai ?_ _ | refine zaj ?_ | refine zag ?_ _)); exact BK449.out) hb)
     have n1_ := Aside0.mk (zap (by repeat with_reducible first | exact HB.out | apply zae | apply zac | apply zad | refine zah ?_ GE449.out) hb)
     clear BK449
     clear HB
     have BK449 := n0_
     have HB := n1_
     clear n0_ n1_
     (try clear hb)
     (try clear hb2)
     (try clear hk)
     (try clear hi)
     refine hK.out _ _ ⟨(zaa BK449.out 0).trans rfl, (zaa BK449.out 1).trans rfl, (zaa BK449.out 2).trans rfl, (zaa BK449.out 3).trans rfl, (zaa BK449.out 4).trans rfl, (zaa BK449.out 5).trans rfl, (zaa BK449.out 6).trans rfl, (zaa BK449.out 7).trans rfl, (co HB.out hw457_0), (co HB.out hw457_1), (co HB.out hw459_0), (co HB.out hw459_1)⟩ (fun hHeld => ?_)
     clear hK K
     refine norm_ (a' := ?_) ?_ ?_
     rotate_left
     ·
      show Act.put _ (some 89) _ = _
      simp only [aw]
      rfl
     refine pure_ (i := 18) (N := some 90) (v := ?_) (a' := ?_) (tm 20 524287) rfl rfl (zak HT_.out (by kernel_rfl)) (fun _ _ _ h => h) (Or.inl ⟨by rfl, ?_⟩) ?_ ?_
     rotate_left
     ·
      intro w'
      go_simp
      with_reducible rfl
     rotate_left
     ·
      simp only [aw]
      rfl
     refine pure_ (i := 19) (N := some 3) (v := ?_) (a' := ?_) (tm 20 1048575) rfl rfl (zak HT_.out (by kernel_rfl)) (fun _ _ _ h => h) (Or.inl ⟨by rfl, ?_⟩) ?_ ?_
     rotate_left
     ·
      intro w'
      go_simp
      with_reducible rfl
     rotate_left
     ·
      simp only [aw]
      rfl
     refine done_ (done_of HT_.out (by kernel_rfl)) ?_
     try go_wp2
     go_roundg k2
     case measure => have := HK1.out; have := HK2.out; omega
     case rel => exact ⟨((((x3_2 ++ (⟨#[32]⟩ : ByteArray)) ++ t458) ++ (⟨#[32]⟩ : ByteArray)) ++ t460), (wrap64 (x6_2 + 1)), (by first | rfl | (simp; done) | (simp [*]; done)), (by first | rfl | (simp; done) | (simp [*]; done)), H', ⟨by have := HK1.out; have := HK2.out; omega⟩, ⟨by (with_reducible repeat (first | refine zai ?_ _ | refine zaj ?_ | refine zag ?_ _)); exact BK449.out⟩, ⟨by repeat with_reducible first | exact HB.out | apply zae | apply zac | apply zad | refine zah ?_ GE449.out⟩⟩

end Go.Proofs.YtdmlgligljagoaaDoor.PS

namespace Go.Proofs.YtdmlgligljagoaaDoor.PS
open Go.RowKit Go.Proofs.YtdmlgligljagoaaDoorW.PrintWords Go.Proofs.YtdmlgligljagoaaDoorW.PrintLast Go.Proofs.YtdmlgligljagoaaDoorW.PrintMore
attribute [local go_sem] zbg zbh max_two min_two zbe zbf zbi zbj   -- for this text's walks alone
set_option linter.unusedVariables false
set_option linter.unusedSimpArgs false

/-! ### cofferref22_lines: function 29 -/
mutual
def cofferref22_lines.l0 : Nat → ByteArray → List ByteArray → Int → Int → Option (List ByteArray × Bool)
 | 0, _, _, _, _ => none
 | k + 1, x0, x4, x5, x6 => if x6 < (x0.size : Int) then (if 0 ≤ x6 then (if (bt x0 x6) = 10 then (if 0 ≤ x5 then (if x5 ≤ x6 then (if x6 ≤ (x0.size : Int) then (if x4.length < 8796093022208 then (cofferref22_lines.l0 k x0 (x4 ++ [x0.extract (x5 : Int).toNat (x6 : Int).toNat]) (wrap64 (x6 + 1)) (wrap64 (x6 + 1))) else (none)) else (none)) else (none)) else (none)) else (cofferref22_lines.l0 k x0 x4 x5 (wrap64 (x6 + 1)))) else (none)) else (if x5 < (x0.size : Int) then (if 0 ≤ x5 then (if x5 ≤ (x0.size : Int) then (if x4.length < 8796093022208 then (cofferref22_lines.j1 k (x4 ++ [x0.extract (x5 : Int).toNat x0.size])) else (none)) else (none)) else (none)) else (cofferref22_lines.j1 k x4))
def cofferref22_lines.j1 : Nat → List ByteArray → Option (List ByteArray × Bool)
 | 0, _ => none
 | k + 1, x4 => cofferref22_lines.l1 k x4 0
def cofferref22_lines.l1 : Nat → List ByteArray → Int → Option (List ByteArray × Bool)
 | 0, _, _ => none
 | k + 1, x4, x7 => if x7 < (x4.length : Int) then (if 0 ≤ x7 then (if ((rdOf ByteArray.empty x4 x7).size : Int) > 8192 then (some (([] : List ByteArray), false)) else (cofferref22_lines.l1 k x4 (wrap64 (x7 + 1)))) else (none)) else (some (x4, decide ((x4.length : Int) ≤ 1024)))
end
def cofferref22_lines.f (k : Nat) (a0 : ByteArray) : Option (List ByteArray × Bool) := if (a0.size : Int) > 65536 then (some (([] : List ByteArray), false)) else (cofferref22_lines.l0 k a0 ([] : List ByteArray) 0 0)
set_option maxHeartbeats 8000000 in
set_option maxRecDepth 100000 in
theorem cofferref22_lines.calls (k : Nat) (a0 : ByteArray) (r1 : List ByteArray) (r2 : Bool) (w : World) (h : cofferref22_lines.f k a0 = some (r1, r2)) :
  Calls Tryd.prog 29 #[.string a0] w fun e w' => ∃ v0_ : Value, e = .returned (.tuple #[v0_, .bool r2]) ∧ Kd.R Kd.string 9 w' w.heap.size (fun _ => True) v0_ r1 ∧ Below w.heap.size w w' := by
 have HB := Aside0.mk (Below.refl w.heap.size w)
 have H : (if (a0.size : Int) > 65536 then (some (([] : List ByteArray), false)) else (cofferref22_lines.l0 k a0 ([] : List ByteArray) 0 0)) = some (r1, r2) := h
 clear h
 by_cases c2 : (a0.size : Int) > 65536
 ·
  rw [if_pos c2] at H
  have c2b0 : decide (65536 < (a0.size : Int)) = true := decide_eq_true c2
  have c2b1 : decide (65536 < a0.size) = true := decide_eq_true (by omega)
  clear c2
  simp only [Option.some.injEq, Prod.mk.injEq] at H
  obtain ⟨rfl, rfl⟩ := H
  go_enter Tryd.func29, Tryd.ntmps29
  go_wp2
  go_ret2
  exact ⟨_, by first | rfl | (simp [zam, zan] <;> rfl) | (simp [*, zam, zan] <;> rfl), by first | exact Kd.R_nil _ _ _ _ _ | exact Kd.N_nil _ _ _ _ _ | exact Kd.V_nil _ _ _ _ _ | exact Kd.Q_nil _ _ _ _ _ | exact Kd.S_nil _ _ _ _ _, by repeat with_reducible first | exact HB.out | apply zae | apply zac | apply zad⟩
 rw [if_neg c2] at H
 have c2b0 : decide (65536 < (a0.size : Int)) = false := decide_eq_false c2
 have c2b1 : decide (65536 < a0.size) = false := decide_eq_false (by omega)
 clear c2
 have H' := Aside0.mk H
 clear H
 go_enter Tryd.func29, Tryd.ntmps29
 go_wp2
 go_loopg [4, 5, 6] k (fun kq v4 v5 v6 w' => ∃ (x4_1 : List ByteArray) (x5_1 : Int) (x6_1 : Int), v5 = .int .i64 x5_1 ∧ v6 = .int .i64 x6_1 ∧ Aside0 (cofferref22_lines.l0 kq a0 x4_1 x5_1 x6_1 = some (r1, r2)) ∧ Aside0 (kq ≤ k) ∧ Aside0 (Kd.R Kd.string 9 w' w.heap.size (fun _ => True) v4 x4_1) ∧ Aside0 (Below w.heap.size w w'))
 case atStart => exact ⟨(([] : List ByteArray)), (0), (0), (by first | rfl | (simp; done) | (simp [*]; done)), (by first | rfl | (simp; done) | (simp [*]; done)), H', ⟨Nat.le_refl _⟩, ⟨by first | exact Kd.R_nil _ _ _ _ _ | exact Kd.N_nil _ _ _ _ _ | exact Kd.V_nil _ _ _ _ _ | exact Kd.Q_nil _ _ _ _ _ | exact Kd.S_nil _ _ _ _ _⟩, ⟨by repeat with_reducible first | exact HB.out | apply zae | apply zac | apply zad⟩⟩
 case round =>
  clear H'
  try clear c2
  try clear c2b0
  try clear c2b1
  try clear p2
  obtain ⟨x4_1, x5_1, x6_1, rfl, rfl, HA, HK1, HO_4, HB⟩ := hrel
  cases gk with
  | zero => exact absurd HA.out (by simp [cofferref22_lines.l0])
  | succ k1 =>
   have H := HA.out
   clear HA
   simp only [cofferref22_lines.l0] at H
   by_cases c3 : x6_1 < (a0.size : Int)
   ·
    rw [if_pos c3] at H
    have c3b0 : decide (x6_1 < (a0.size : Int)) = true := decide_eq_true c3
    clear c3
    by_cases c4 : 0 ≤ x6_1
    rotate_left
    ·
     rw [if_neg c4] at H
     exact absurd H (by simp)
    rw [if_pos c4] at H
    have c4b0 : decide (0 ≤ x6_1) = true := decide_eq_true c4
    clear c4
    by_cases c6 : (bt a0 x6_1) = 10
    rotate_left
    ·
     rw [if_neg c6] at H
     have c6b0 : ((bt a0 x6_1) == 10) = false := beq_eq_false_iff_ne.mpr c6
     have c6b1 : ((bt a0 x6_1) != 10) = true := bne_iff_ne.mpr c6
     have H' := Aside0.mk H
     clear H
     have p5 : 0 ≤ (x6_1 : Int) := of_decide_eq_true (by first | (with_reducible assumption) | assumption)
     have q5 : x6_1 < (a0.size : Int) := of_decide_eq_true (by first | (with_reducible assumption) | assumption)
     have hx5 := bt_at a0 x6_1
     replace p5 := eq_true p5
     replace q5 := eq_true q5
     go_wp2
     go_roundg k1
     case measure => have := HK1.out; omega
     case rel => exact ⟨(x4_1), (x5_1), (wrap64 (x6_1 + 1)), (by first | rfl | (simp; done) | (simp [*]; done)), (by first | rfl | (simp; done) | (simp [*]; done)), H', ⟨by have := HK1.out; omega⟩, ⟨by (with_reducible repeat (first | apply Kd.R_alloc | apply Kd.R_drewN | apply Kd.R_drew)); exact HO_4.out⟩, ⟨by repeat with_reducible first | exact HB.out | apply zae | apply zac | apply zad⟩⟩
    rw [if_pos c6] at H
    have c6b0 : ((bt a0 x6_1) == 10) = true := beq_iff_eq.mpr c6
    have c6b1 : ((bt a0 x6_1) != 10) = false := bne_eq_false_iff_eq.mpr c6
    clear c6
    by_cases c7 : 0 ≤ x5_1
    rotate_left
    ·
     rw [if_neg c7] at H
     exact absurd H (by simp)
    rw [if_pos c7] at H
    have c7b0 := eq_true c7
    have c7b1 : decide (0 ≤ x5_1) = true := decide_eq_true c7
    clear c7
    by_cases c8 : x5_1 ≤ x6_1
    rotate_left
    ·
     rw [if_neg c8] at H
     exact absurd H (by simp)
    rw [if_pos c8] at H
    have c8b0 := eq_true c8
    have c8b1 : decide (x5_1 ≤ x6_1) = true := decide_eq_true c8
    clear c8
    by_cases c9 : x6_1 ≤ (a0.size : Int)
    rotate_left
    ·
     rw [if_neg c9] at H
     exact absurd H (by simp)
    rw [if_pos c9] at H
    have c9b0 := eq_true c9
    have c9b1 : decide (x6_1 ≤ (a0.size : Int)) = true := decide_eq_true c9
    clear c9
    by_cases c10 : x4_1.length < 8796093022208
    rotate_left
    ·
     rw [if_neg c10] at H
     exact absurd H (by simp)
    rw [if_pos c10] at H
    have LMc10 := Aside0.mk c10
    clear c10
    obtain ⟨y463, hy463⟩ : ∃ y_ : List ByteArray, y_ = (x4_1 ++ [a0.extract (x5_1 : Int).toNat (x6_1 : Int).toNat]) := ⟨_, rfl⟩
    replace H : (cofferref22_lines.l0 k1 a0 y463 (wrap64 (x6_1 + 1)) (wrap64 (x6_1 + 1))) = some (r1, r2) := by first | (rw [hy463]; with_reducible exact H) | (have H2_ := (Option.bind_some _ _).symm.trans H; rw [hy463]; with_reducible exact H2_) | (have H2_ := (Option.bind_some _ _).symm.trans H; with_reducible exact H2_) | with_reducible exact H | (rw [hy463]; exact H) | exact H
    have Ny463 := Aside0.mk hy463
    clear hy463
    have H' := Aside0.mk H
    clear H
    have p5 : 0 ≤ (x6_1 : Int) := of_decide_eq_true (by first | (with_reducible assumption) | assumption)
    have q5 : x6_1 < (a0.size : Int) := of_decide_eq_true (by first | (with_reducible assumption) | assumption)
    have hx5 := bt_at a0 x6_1
    replace p5 := eq_true p5
    replace q5 := eq_true q5
    go_wp2_with (first | ((with_reducible refine zax (b := .append) (xs := #[.tmp 21, .tmp 26]) rfl ?_); at_builtin; refine Kd.R_append Kd.string (w0 := w) w.heap.size rfl (.tmp 21) (.tmp 26) 70 9 (.string ⟨#[]⟩) 16 rfl Tryd.underlying70 info9 rfl (by decide) (by omega) u4 x4_1 (a0.extract (x5_1 : Int).toNat (x6_1 : Int).toNat) [.string (a0.extract (x5_1 : Int).toNat (x6_1 : Int).toNat)] (fun _ => True) (fun _ => False) rfl rfl ?aP (fun _ hk => hk.elim) ?aF ?aO ?aB ?aS ?aL ?_; (case aP => exact rfl); (case aB => exact (by repeat with_reducible first | exact HB.out | apply zae | apply zac | apply zad)); (case aF => exact (fun _ _ => trivial)); (case aO => exact (by (with_reducible repeat (first | apply Kd.R_alloc | apply Kd.R_drewN | apply Kd.R_drew)); exact HO_4.out)); (case aS => exact (zal (by repeat with_reducible first | exact HB.out | apply zae | apply zac | apply zad))); (case aL => have := LMc10.out; omega); intro v464 w11 ho hb hg hat; rw [← Ny463.out] at ho; have n0_ := Aside0.mk (hb); have n1_ := Aside0.mk (ho); clear HB; clear HO_4; have HB := n0_; have HO465 := n1_; clear n0_ n1_; clear ho hb hg hat))
    go_roundg k1
    case measure => have := HK1.out; omega
    case rel => exact ⟨(y463), (wrap64 (x6_1 + 1)), (wrap64 (x6_1 + 1)), (by first | rfl | (simp; done) | (simp [*]; done)), (by first | rfl | (simp; done) | (simp [*]; done)), H', ⟨by have := HK1.out; omega⟩, ⟨by (with_reducible repeat (first | apply Kd.R_alloc | apply Kd.R_drewN | apply Kd.R_drew)); exact HO465.out⟩, ⟨by repeat with_reducible first | exact HB.out | apply zae | apply zac | apply zad⟩⟩
   rw [if_neg c3] at H
   have c3b0 : decide (x6_1 < (a0.size : Int)) = false := decide_eq_false c3
   clear c3
   have HC12 := Aside0.mk H
   clear H
   go_upto_if 33 with (fail)
   go_cut [4] (fun v4 wc => ∃ (kq : Nat) (x4_11 : List ByteArray), Aside0 (cofferref22_lines.j1 kq x4_11 = some (r1, r2)) ∧ Aside0 (kq ≤ k1) ∧ Aside0 (Kd.R Kd.string 9 wc w.heap.size (fun _ => True) v4 x4_11) ∧ Aside0 (Below w.heap.size w wc))
   case first =>
    have H := HC12.out
    clear HC12
    by_cases c13 : x5_1 < (a0.size : Int)
    rotate_left
    ·
     rw [if_neg c13] at H
     have c13b0 : decide (x5_1 < (a0.size : Int)) = false := decide_eq_false c13
     clear c13
     (first | rw [c13b0] | (simp only [i64_w, i32_w]; rw [c13b0]) | rw [c13b2] | skip)
     have H' := Aside0.mk H
     clear H
     go_wp2
     go_meet
     case rel => exact ⟨_, (x4_1), H', ⟨by have := HK1.out; first | omega | exact Nat.le_refl _⟩, ⟨by (with_reducible repeat (first | apply Kd.R_alloc | apply Kd.R_drewN | apply Kd.R_drew)); exact HO_4.out⟩, ⟨by repeat with_reducible first | exact HB.out | apply zae | apply zac | apply zad⟩⟩
    rw [if_pos c13] at H
    have c13b0 : decide (x5_1 < (a0.size : Int)) = true := decide_eq_true c13
    clear c13
    (first | rw [c13b0] | (simp only [i64_w, i32_w]; rw [c13b0]) | rw [c13b2] | skip)
    by_cases c14 : 0 ≤ x5_1
    rotate_left
    ·
     rw [if_neg c14] at H
     exact absurd H (by simp)
    rw [if_pos c14] at H
    have c14b0 := eq_true c14
    have c14b1 : decide (0 ≤ x5_1) = true := decide_eq_true c14
    clear c14
    by_cases c15 : x5_1 ≤ (a0.size : Int)
    rotate_left
    ·
     rw [if_neg c15] at H
     exact absurd H (by simp)
    rw [if_pos c15] at H
    have c15b0 := eq_true c15
    have c15b1 : decide (x5_1 ≤ (a0.size : Int)) = true := decide_eq_true c15
    clear c15
    by_cases c16 : x4_1.length < 8796093022208
    rotate_left
    ·
     rw [if_neg c16] at H
     exact absurd H (by simp)
    rw [if_pos c16] at H
    have LMc16 := Aside0.mk c16
    clear c16
    obtain ⟨y466, hy466⟩ : ∃ y_ : List ByteArray, y_ = (x4_1 ++ [a0.extract (x5_1 : Int).toNat a0.size]) := ⟨_, rfl⟩
    replace H : (cofferref22_lines.j1 k1 y466) = some (r1, r2) := by first | (rw [hy466]; with_reducible exact H) | (have H2_ := (Option.bind_some _ _).symm.trans H; rw [hy466]; with_reducible exact H2_) | (have H2_ := (Option.bind_some _ _).symm.trans H; with_reducible exact H2_) | with_reducible exact H | (rw [hy466]; exact H) | exact H
    have Ny466 := Aside0.mk hy466
    clear hy466
    have H' := Aside0.mk H
    clear H
    go_wp2_with (first | ((with_reducible refine zax (b := .append) (xs := #[.tmp 34, .tmp 38]) rfl ?_); at_builtin; refine Kd.R_append Kd.string (w0 := w) w.heap.size rfl (.tmp 34) (.tmp 38) 70 9 (.string ⟨#[]⟩) 16 rfl Tryd.underlying70 info9 rfl (by decide) (by omega) u4 x4_1 (a0.extract (x5_1 : Int).toNat a0.size) [.string (a0.extract (x5_1 : Int).toNat a0.size)] (fun _ => True) (fun _ => False) rfl rfl ?aP (fun _ hk => hk.elim) ?aF ?aO ?aB ?aS ?aL ?_; (case aP => exact rfl); (case aB => exact (by repeat with_reducible first | exact HB.out | apply zae | apply zac | apply zad)); (case aF => exact (fun _ _ => trivial)); (case aO => exact (by (with_reducible repeat (first | apply Kd.R_alloc | apply Kd.R_drewN | apply Kd.R_drew)); exact HO_4.out)); (case aS => exact (zal (by repeat with_reducible first | exact HB.out | apply zae | apply zac | apply zad))); (case aL => have := LMc16.out; omega); intro v467 w17 ho hb hg hat; rw [← Ny466.out] at ho; have n0_ := Aside0.mk (hb); have n1_ := Aside0.mk (ho); clear HB; clear HO_4; have HB := n0_; have HO468 := n1_; clear n0_ n1_; clear ho hb hg hat))
    go_meet
    case rel => exact ⟨_, (y466), H', ⟨by have := HK1.out; first | omega | exact Nat.le_refl _⟩, ⟨by (with_reducible repeat (first | apply Kd.R_alloc | apply Kd.R_drewN | apply Kd.R_drew)); exact HO468.out⟩, ⟨by repeat with_reducible first | exact HB.out | apply zae | apply zac | apply zad⟩⟩
   case rest =>
    clear HC12
    try clear c1
    try clear c2
    try clear c2b0
    try clear c2b1
    try clear p2
    try clear c3
    try clear c3b0
    try clear c4
    try clear c4b0
    try clear p5
    try clear q5
    try clear hx5
    try clear c6
    try clear c6b0
    try clear c6b1
    try clear p6
    try clear c7
    try clear c7b0
    try clear c7b1
    try clear c8
    try clear c8b0
    try clear c8b1
    try clear c9
    try clear c9b0
    try clear c9b1
    try clear c10
    try clear c13
    try clear c13b0
    try clear c13b2
    try clear c14
    try clear c14b0
    try clear c14b1
    try clear c15
    try clear c15b0
    try clear c15b1
    try clear c16
    try clear p2
    try clear p5
    try clear q5
    obtain ⟨kq, x4_11, HA, HJ11, HO_4, HB⟩ := hcut
    cases kq with
    | zero => exact absurd HA.out (by simp [cofferref22_lines.j1])
    | succ kj11 =>
     have H := HA.out
     clear HA
     simp only [cofferref22_lines.j1] at H
     have H' := Aside0.mk H
     clear H
     go_wp2
     go_loopg [7] kj11 (fun kq v7 w' => ∃ (x7_3 : Int), v7 = .int .i64 x7_3 ∧ Aside0 (cofferref22_lines.l1 kq x4_11 x7_3 = some (r1, r2)) ∧ Aside0 (kq ≤ kj11) ∧ Aside0 (Kd.R Kd.string 9 w' w.heap.size (fun _ => True) u4 x4_11) ∧ Aside0 (Below w.heap.size w w'))
     case atStart => exact ⟨(0), (by first | rfl | (simp; done) | (simp [*]; done)), H', ⟨Nat.le_refl _⟩, ⟨by (with_reducible repeat (first | apply Kd.R_alloc | apply Kd.R_drewN | apply Kd.R_drew)); exact HO_4.out⟩, ⟨by repeat with_reducible first | exact HB.out | apply zae | apply zac | apply zad⟩⟩
     case round =>
      clear H'
      try clear c1
      try clear c2
      try clear c2b0
      try clear c2b1
      try clear p2
      try clear c3
      try clear c3b0
      try clear c4
      try clear c4b0
      try clear p5
      try clear q5
      try clear hx5
      try clear c6
      try clear c6b0
      try clear c6b1
      try clear p6
      try clear c7
      try clear c7b0
      try clear c7b1
      try clear c8
      try clear c8b0
      try clear c8b1
      try clear c9
      try clear c9b0
      try clear c9b1
      try clear c10
      try clear c13
      try clear c13b0
      try clear c13b2
      try clear c14
      try clear c14b0
      try clear c14b1
      try clear c15
      try clear c15b0
      try clear c15b1
      try clear c16
      try clear p2
      try clear p5
      try clear p6
      try clear q5
      obtain ⟨x7_3, rfl, HA, HK3, HO_4, HB⟩ := hrel
      cases gk with
      | zero => exact absurd HA.out (by simp [cofferref22_lines.l1])
      | succ k3 =>
       have H := HA.out
       clear HA
       simp only [cofferref22_lines.l1] at H
       by_cases c18 : x7_3 < (x4_11.length : Int)
       rotate_left
       ·
        rw [if_neg c18] at H
        have c18b0 : decide (x7_3 < (x4_11.length : Int)) = false := decide_eq_false c18
        clear c18
        simp only [Option.some.injEq, Prod.mk.injEq] at H
        obtain ⟨rfl, rfl⟩ := H
        obtain ⟨Ao23, co23, eo23⟩ := Kd.R_slice HO_4.out
        subst eo23
        go_wp2
        go_ret2
        exact ⟨_, by first | rfl | (simp [zam, zan] <;> rfl) | (simp [*, zam, zan] <;> rfl), by (with_reducible repeat (first | apply Kd.R_alloc | apply Kd.R_drewN | apply Kd.R_drew)); exact HO_4.out, by repeat with_reducible first | exact HB.out | apply zae | apply zac | apply zad⟩
       rw [if_pos c18] at H
       have c18b0 : decide (x7_3 < (x4_11.length : Int)) = true := decide_eq_true c18
       clear c18
       by_cases c19 : 0 ≤ x7_3
       rotate_left
       ·
        rw [if_neg c19] at H
        exact absurd H (by simp)
       rw [if_pos c19] at H
       have c19b0 : decide (0 ≤ x7_3) = true := decide_eq_true c19
       clear c19
       by_cases c20 : ((rdOf ByteArray.empty x4_11 x7_3).size : Int) > 8192
       ·
        rw [if_pos c20] at H
        have c20b0 : decide (8192 < ((rdOf ByteArray.empty x4_11 x7_3).size : Int)) = true := decide_eq_true c20
        have c20b1 : decide (8192 < (rdOf ByteArray.empty x4_11 x7_3).size) = true := decide_eq_true (by omega)
        clear c20
        simp only [Option.some.injEq, Prod.mk.injEq] at H
        obtain ⟨rfl, rfl⟩ := H
        obtain ⟨Ao21, co21, eo21⟩ := Kd.R_slice HO_4.out
        subst eo21
        have p469 : 0 ≤ (x7_3 : Int) := of_decide_eq_true (by first | (with_reducible assumption) | assumption)
        have q469 : x7_3 < (x4_11.length : Int) := of_decide_eq_true (by first | (with_reducible assumption) | assumption)
        obtain ⟨ad469, e469, hx469_0⟩ := Kd.at_string (Kd.R_reads' HO_4.out).2.2 x7_3 p469 q469
        cases e469
        replace p469 := eq_true p469
        replace q469 := eq_true q469
        go_wp2
        go_ret2
        exact ⟨_, by first | rfl | (simp [zam, zan] <;> rfl) | (simp [*, zam, zan] <;> rfl), by first | exact Kd.R_nil _ _ _ _ _ | exact Kd.N_nil _ _ _ _ _ | exact Kd.V_nil _ _ _ _ _ | exact Kd.Q_nil _ _ _ _ _ | exact Kd.S_nil _ _ _ _ _, by repeat with_reducible first | exact HB.out | apply zae | apply zac | apply zad⟩
       rw [if_neg c20] at H
       have c20b0 : decide (8192 < ((rdOf ByteArray.empty x4_11 x7_3).size : Int)) = false := decide_eq_false c20
       have c20b1 : decide (8192 < (rdOf ByteArray.empty x4_11 x7_3).size) = false := decide_eq_false (by omega)
       clear c20
       have H' := Aside0.mk H
       clear H
       obtain ⟨Ao22, co22, eo22⟩ := Kd.R_slice HO_4.out
       subst eo22
       have p469 : 0 ≤ (x7_3 : Int) := of_decide_eq_true (by first | (with_reducible assumption) | assumption)
       have q469 : x7_3 < (x4_11.length : Int) := of_decide_eq_true (by first | (with_reducible assumption) | assumption)
       obtain ⟨ad469, e469, hx469_0⟩ := Kd.at_string (Kd.R_reads' HO_4.out).2.2 x7_3 p469 q469
       cases e469
       replace p469 := eq_true p469
       replace q469 := eq_true q469
       go_wp2
       go_roundg k3
       case measure => have := HK1.out; have := HJ11.out; have := HK3.out; omega
       case rel => exact ⟨(wrap64 (x7_3 + 1)), (by first | rfl | (simp; done) | (simp [*]; done)), H', ⟨by have := HK1.out; have := HJ11.out; have := HK3.out; omega⟩, ⟨by (with_reducible repeat (first | apply Kd.R_alloc | apply Kd.R_drewN | apply Kd.R_drew)); exact HO_4.out⟩, ⟨by repeat with_reducible first | exact HB.out | apply zae | apply zac | apply zad⟩⟩

end Go.Proofs.YtdmlgligljagoaaDoor.PS

set_option linter.unusedVariables false
set_option linter.unusedSimpArgs false
namespace Go.Proofs.YtdmlgligljagoaaDoor
open Go.RowKit Go.Proofs.YtdmlgligljagoaaDoorW.PrintWords PS

theorem td16 : ∀ n : Fin 256, (Int.tdiv ((n.val : Nat) : Int) 16) % 256 = ((n.val / 16 : Nat) : Int) := by decide +kernel
theorem tm16 : ∀ n : Fin 256, Int.tmod ((n.val : Nat) : Int) 16 = ((n.val % 16 : Nat) : Int) := by decide +kernel
set_option maxHeartbeats 1000000 in
theorem rquote_go (s : List UInt8) (hs : s.length ≤ 4398046511104) :
    ∀ d i (acc : List Int), i + d = s.length → acc.length ≤ 4 * i + 1 → Ev (fun k => cofferref22_Quote.l0 k (bs s) bHex acc (i : Int)) (strOfNums (acc ++ nums ((s.drop i).flatMap quoteB) ++ [34])) := by
  intro d
  induction d with
  | zero =>
    intro i acc hi ha
    refine Ev.step (f := fun _ => some _) (fun k => ?_) (Ev.now _)
    rw [cofferref22_Quote.l0, if_neg (by rw [zao]; omega), if_pos (by omega), List.drop_of_length_le (by omega)]
    simp [nums]
  | succ d ih =>
    intro i acc hi ha
    have hlt : i < s.length := by omega
    have b0 : bt (bs s) (i : Int) = ((s[i]'hlt).toNat : Int) := bt_bs s i hlt
    have p1 : wrap64 ((i : Int) + 1) = ((i + 1 : Nat) : Int) := w64p 1 (by omega)
    have hz : ((bs s).size : Int) = (s.length : Int) := by rw [zao]
    have hn := ih (i + 1)
    have hc8 : (s[i]'hlt).toNat < 256 := (s[i]'hlt).toNat_lt
    rw [List.drop_eq_getElem_cons hlt]
    generalize s[i] = c at b0 hc8 ⊢
    rw [List.flatMap_cons, nums_app]
    by_cases hq : c = 34 ∨ c = 92
    · have e : nums (quoteB c) = [92, (c.toNat : Int)] := by unfold quoteB; rw [if_pos hq]; rfl
      rw [e]
      refine Ev.step (f := fun k => cofferref22_Quote.j1 k (bs s) bHex acc i (c.toNat : Int) true) (fun k => ?_) (Ev.step (f := fun k => cofferref22_Quote.l0 k (bs s) bHex (acc ++ [92, (c.toNat : Int)]) ((i + 1 : Nat) : Int)) (fun k => ?_) ?_)
      · rw [cofferref22_Quote.l0, if_pos (by omega), if_pos (by omega), b0]
        by_cases h34 : (c.toNat : Int) = 34
        · rw [if_pos h34]
        · rw [if_neg h34, show ((c.toNat : Int) == 92) = true from beq_iff_eq.2 ((u8_92 c).2 (hq.resolve_left (fun h => h34 ((u8_34 c).2 h))))]
      · rw [cofferref22_Quote.j1, if_pos rfl, Option.bind_some, if_pos (by simp; omega), p1]
      · have := hn (acc ++ [92, (c.toNat : Int)]) (by omega) (by simp; omega)
        simpa only [List.append_assoc] using this
    · have h34 : ¬ (c.toNat : Int) = 34 := fun h => hq (.inl ((u8_34 c).1 h))
      have h92 : ¬ (c.toNat : Int) = 92 := fun h => hq (.inr ((u8_92 c).1 h))
      refine Ev.step (f := fun k => cofferref22_Quote.j1 k (bs s) bHex acc i (c.toNat : Int) false) (fun k => ?_) ?_
      · rw [cofferref22_Quote.l0, if_pos (by omega), if_pos (by omega), b0, if_neg h34, show ((c.toNat : Int) == 92) = false from beq_eq_false_iff_ne.2 h92]
      by_cases hr : c.toNat < 32 ∨ 126 < c.toNat
      · have e : nums (quoteB c) = [92, 120, ((hx (c.toNat / 16)).toNat : Int), ((hx (c.toNat % 16)).toNat : Int)] := by unfold quoteB; rw [if_neg hq, if_pos hr]; rfl
        rw [e]
        have ha15 : Int.tmod (c.toNat : Int) 16 = ((c.toNat % 16 : Nat) : Int) := tm16 ⟨c.toNat, hc8⟩
        have hd16 : (Int.tdiv (c.toNat : Int) 16) % 256 = ((c.toNat / 16 : Nat) : Int) := td16 ⟨c.toNat, hc8⟩
        have hb1 : bt bHex ((c.toNat / 16 : Nat) : Int) = ((hx (c.toNat / 16)).toNat : Int) := bt_hx ⟨c.toNat / 16, by omega⟩
        have hb2 : bt bHex ((c.toNat % 16 : Nat) : Int) = ((hx (c.toNat % 16)).toNat : Int) := bt_hx ⟨c.toNat % 16, by omega⟩
        have hn1 := hn (acc ++ [92, 120, ((hx (c.toNat / 16)).toNat : Int), ((hx (c.toNat % 16)).toNat : Int)]) (by omega) (by simp; omega)
        refine Ev.step (f := fun k => cofferref22_Quote.l0 k (bs s) bHex (acc ++ [92, 120, ((hx (c.toNat / 16)).toNat : Int), ((hx (c.toNat % 16)).toNat : Int)]) ((i + 1 : Nat) : Int)) (fun k => ?_) (by simpa only [List.append_assoc] using hn1)
        rw [cofferref22_Quote.j1, if_neg (by simp), hd16, ha15, hb1, hb2, p1]
        by_cases h32 : (c.toNat : Int) < 32
        · rw [if_pos h32, if_pos (by omega), if_pos (by show _ < (16 : Int); omega), if_pos (by omega), if_pos (by show _ < (16 : Int); omega), Option.bind_some, if_pos (by simp; omega)]
        · rw [if_neg h32, if_pos (by omega), if_pos (by omega), if_pos (by show _ < (16 : Int); omega), if_pos (by omega), if_pos (by show _ < (16 : Int); omega), Option.bind_some, if_pos (by simp; omega)]
      · have e : nums (quoteB c) = [(c.toNat : Int)] := by unfold quoteB; rw [if_neg hq, if_neg hr]; rfl
        rw [e]
        refine Ev.step (f := fun k => cofferref22_Quote.l0 k (bs s) bHex (acc ++ [(c.toNat : Int)]) ((i + 1 : Nat) : Int)) (fun k => ?_) (by have := hn (acc ++ [(c.toNat : Int)]) (by omega) (by simp; omega); simpa only [List.append_assoc] using this)
        rw [cofferref22_Quote.j1, if_neg (by simp), if_neg (by omega), if_neg (by omega), if_pos (by omega), p1]
theorem rquote_ev (s : List UInt8) (hs : s.length ≤ 4398046511104) : Ev (fun k => cofferref22_Quote.f k (bs s)) (bs (zau s)) := by
  have h := rquote_go s hs s.length 0 [34] (by omega) (by simp)
  have e : strOfNums ([34] ++ nums ((s.drop 0).flatMap quoteB) ++ [34]) = bs (zau s) := by
    rw [← strOfNums_nums]
    congr 1
    simp [zau, nums]
  rw [e] at h
  exact Ev.congr (fun k => rfl) h
/-! a step's line, as the document has it -/
def tl (ps : List ByteArray) : List UInt8 := ps.flatMap fun b => 32 :: b.data.toList
theorem tl_nil : tl [] = [] := rfl
theorem tl_cons (b : ByteArray) (r : List ByteArray) : tl (b :: r) = 32 :: b.data.toList ++ tl r := rfl
theorem tl_app (a b : List ByteArray) : tl (a ++ b) = tl a ++ tl b := by unfold tl; rw [List.flatMap_append]
def rpartV (c : Nat) (s : S55) : List ByteArray :=
  if c = 98 then [bs (zau s.f1.data.toList)] else if c = 107 then [bs (zau s.f2.data.toList)] else if c = 100 then [bs (zau s.f3.data.toList)]
  else if c = 115 then [bs (Lib.itoa s.f5)] else if c = 110 then [bs (Lib.itoa s.f6)]
  else if c = 77 then s.f4.flatMap pairT else if c = 75 then s.f7.map fun n => bs (Lib.itoa n) else []
def rpartsV (f : List UInt8) (s : S55) : List ByteArray := f.flatMap fun c => rpartV c.toNat s
theorem rq (b : ByteArray) (h : b.size ≤ 4398046511104) : Ev (fun k => cofferref22_Quote.f k b) (bs (zau b.data.toList)) := by
  have := rquote_ev b.data.toList (by rw [← Lib.size_eq]; exact h)
  rw [bs_self] at this
  exact this
theorem sp_app (acc x : List UInt8) : bs acc ++ (⟨#[32]⟩ : ByteArray) ++ bs x = bs (acc ++ (32 :: x)) := by
  rw [show (⟨#[32]⟩ : ByteArray) = bs [32] from rfl, zbb, zbb]; simp
theorem sp_size (acc : List UInt8) : (bs acc ++ (⟨#[32]⟩ : ByteArray)).size = acc.length + 1 := by
  rw [show (⟨#[32]⟩ : ByteArray) = bs [32] from rfl, zbb, zao, List.length_append]; rfl
theorem rmeta_go (f : ByteArray) (s : S55) (i : Nat) (hi : i ≤ 1099511627776) (T : List UInt8) (hT : T.length ≤ 1099511627776) (hp : ∀ p ∈ s.f4, p.f0.size ≤ 4398046511104 ∧ p.f1.size ≤ 4398046511104) (hl : s.f4.length ≤ 1099511627776) (rest : List ByteArray)
    (hn : ∀ acc, acc ++ tl rest = T → Ev (fun k => cofferref22_step.l0 k (bs acc) f ((i + 1 : Nat) : Int) s.f0 s.f1 s.f2 s.f3 s.f4 s.f5 s.f6 s.f7) (bs T)) :
    ∀ d j acc, j + d = s.f4.length → acc ++ (tl ((s.f4.drop j).flatMap pairT) ++ tl rest) = T → Ev (fun k => cofferref22_step.l1 k (bs acc) f (i : Int) (j : Int) s.f0 s.f1 s.f2 s.f3 s.f4 s.f5 s.f6 s.f7) (bs T) := by
  intro d
  induction d with
  | zero =>
    intro j acc hj ha
    rw [List.drop_of_length_le (by omega), List.flatMap_nil, tl_nil, List.nil_append] at ha
    refine Ev.step (fun k => ?_) (hn acc ha)
    rw [cofferref22_step.l1, if_neg (by omega), w64s (by omega)]
  | succ d ih =>
    intro j acc hj ha
    have hlt : j < s.f4.length := by omega
    have hr := rdP_get s.f4 j hlt
    obtain ⟨h0, h1⟩ := hp _ (List.getElem_mem hlt)
    rw [List.drop_eq_getElem_cons hlt, List.flatMap_cons, tl_app] at ha
    generalize s.f4[j] = p at *
    have e : tl (pairT p) = 32 :: zau p.f0.data.toList ++ (32 :: zau p.f1.data.toList) := by
      unfold pairT; rw [tl_cons, tl_cons, tl_nil, zbc, zbc]; simp
    rw [e] at ha
    have hlen := congrArg List.length ha
    simp only [List.length_append, List.length_cons] at hlen
    have hih := ih (j + 1) (acc ++ (32 :: zau p.f0.data.toList) ++ (32 :: zau p.f1.data.toList)) (by omega) (by rw [← ha]; simp)
    have q0e := rq p.f0 h0
    have q1e := rq p.f1 h1
    generalize zau p.f0.data.toList = q0 at *
    generalize zau p.f1.data.toList = q1 at *
    refine Ev.step (fun k => by rw [cofferref22_step.l1, if_pos (by omega), if_pos (by rw [zao]; omega), if_pos (by omega), hr]) (Ev.bind q0e (Ev.congr (f := fun k => (cofferref22_Quote.f k p.f1).bind fun u => if (bs (acc ++ (32 :: q0)) ++ (⟨#[32]⟩ : ByteArray)).size + u.size ≤ 9223372036854775807 then cofferref22_step.l1 k (bs (acc ++ (32 :: q0)) ++ (⟨#[32]⟩ : ByteArray) ++ u) f (i : Int) (wrap64 ((j : Int) + 1)) s.f0 s.f1 s.f2 s.f3 s.f4 s.f5 s.f6 s.f7 else none) (fun k => ?_) (Ev.bind q1e (Ev.congr (fun k => ?_) hih))))
    · rw [if_pos (by rw [sp_size, zao]; omega), sp_app, if_pos (by rw [zao, List.length_append, List.length_cons]; omega)]
    · rw [if_pos (by rw [sp_size, zao, List.length_append, List.length_cons]; omega), sp_app, w64s (by omega)]
theorem rkept_go (f : ByteArray) (s : S55) (i : Nat) (hi : i ≤ 1099511627776) (T : List UInt8) (hT : T.length ≤ 1099511627776) (hp : ∀ x ∈ s.f7, I64 x) (hl : s.f7.length ≤ 1099511627776) (rest : List ByteArray)
    (hn : ∀ acc, acc ++ tl rest = T → Ev (fun k => cofferref22_step.l0 k (bs acc) f ((i + 1 : Nat) : Int) s.f0 s.f1 s.f2 s.f3 s.f4 s.f5 s.f6 s.f7) (bs T)) :
    ∀ d j acc, j + d = s.f7.length → acc ++ (tl ((s.f7.drop j).map fun n => bs (Lib.itoa n)) ++ tl rest) = T → Ev (fun k => cofferref22_step.l2 k (bs acc) f (i : Int) (j : Int) s.f0 s.f1 s.f2 s.f3 s.f4 s.f5 s.f6 s.f7) (bs T) := by
  intro d
  induction d with
  | zero =>
    intro j acc hj ha
    rw [List.drop_of_length_le (by omega), List.map_nil, tl_nil, List.nil_append] at ha
    refine Ev.step (fun k => ?_) (hn acc ha)
    rw [cofferref22_step.l2, if_neg (by omega), w64s (by omega)]
  | succ d ih =>
    intro j acc hj ha
    have hlt : j < s.f7.length := by omega
    have hr := rd_get s.f7 j hlt
    have h0 := hp _ (List.getElem_mem hlt)
    rw [List.drop_eq_getElem_cons hlt, List.map_cons, tl_cons, zbc] at ha
    generalize s.f7[j] = x at *
    have hlen := congrArg List.length ha
    simp only [List.length_append, List.length_cons] at hlen
    have hih := ih (j + 1) (acc ++ (32 :: Lib.itoa x)) (by omega) (by rw [← ha]; simp)
    have hit := itoa_is h0
    generalize Lib.itoa x = q0 at *
    refine Ev.step (fun k => ?_) hih
    rw [cofferref22_step.l2, if_pos (by omega), if_pos (by rw [zao]; omega), if_pos (by omega), hr, hit, Option.bind_some, if_pos (by rw [sp_size, zao]; omega), sp_app, w64s (by omega)]
theorem rstep_go (f : List UInt8) (hf : f.length ≤ 1099511627) (s : S55) (hS : StIn s) (hw : wS s ≤ 4194304) (T : List UInt8) (hT : T.length ≤ 1099511627776) :
    ∀ d i acc, i + d = f.length → acc ++ tl (rpartsV (f.drop i) s) = T → Ev (fun k => cofferref22_step.l0 k (bs acc) (bs f) (i : Int) s.f0 s.f1 s.f2 s.f3 s.f4 s.f5 s.f6 s.f7) (bs T) := by
  obtain ⟨_, i5, i6, i7⟩ := hS
  have hp : ∀ p ∈ s.f4, p.f0.size ≤ 4398046511104 ∧ p.f1.size ≤ 4398046511104 := fun p hp => by
    have : wP2 p ≤ (s.f4.map wP2).sum := by
      clear hw i7
      generalize s.f4 = l at *
      induction l with
      | nil => cases hp
      | cons y r ih =>
        rw [List.map_cons, List.sum_cons]
        rcases List.mem_cons.1 hp with rfl | h
        · omega
        · have := ih h; omega
    unfold wS at hw
    have h3 : wP2 p = p.f0.size + p.f1.size + 3 := rfl
    omega
  have h4 : s.f4.length ≤ 1099511627776 := by have := wP_len s.f4; unfold wS at hw; omega
  have h7 : s.f7.length ≤ 1099511627776 := by unfold wS at hw; omega
  have z1 : s.f1.size ≤ 4398046511104 := by unfold wS at hw; omega
  have z2 : s.f2.size ≤ 4398046511104 := by unfold wS at hw; omega
  have z3 : s.f3.size ≤ 4398046511104 := by unfold wS at hw; omega
  intro d
  induction d with
  | zero =>
    intro i acc hi ha
    rw [List.drop_of_length_le (by omega)] at ha
    have e : acc = T := by rw [← ha]; simp [rpartsV, tl]
    subst e
    refine Ev.step (f := fun _ => some _) (fun k => ?_) (Ev.now _)
    rw [cofferref22_step.l0, if_neg (by rw [zao]; omega)]
  | succ d ih =>
    intro i acc hi ha
    have hlt : i < f.length := by omega
    have b0 : bt (bs f) (i : Int) = ((f[i]'hlt).toNat : Int) := bt_bs f i hlt
    have hz : (i : Int) < ((bs f).size : Int) := by rw [zao]; omega
    rw [List.drop_eq_getElem_cons hlt] at ha
    have hcons : ∀ (c : UInt8) (r : List UInt8), rpartsV (c :: r) s = rpartV c.toNat s ++ rpartsV r s := fun c r => by unfold rpartsV; rw [List.flatMap_cons]
    rw [hcons, tl_app] at ha
    generalize f[i] = c at *
    have hn := fun acc2 (h2 : acc2 ++ tl (rpartsV (f.drop (i + 1)) s) = T) => ih (i + 1) acc2 (by omega) h2
    generalize rpartsV (f.drop (i + 1)) s = R at *
    have hlen := congrArg List.length ha
    simp only [List.length_append] at hlen
    have one : ∀ (q : List UInt8), rpartV c.toNat s = [bs q] → acc ++ (32 :: q) ++ tl R = T ∧ acc.length + 1 + q.length ≤ 1099511627776 := fun q hq => by
      rw [hq, tl_cons, tl_nil, zbc, List.append_nil] at ha
      refine ⟨by rw [← ha]; simp, ?_⟩
      have := congrArg List.length ha
      simp only [List.length_append, List.length_cons] at this
      omega
    by_cases e98 : c.toNat = 98
    · obtain ⟨g1, g2⟩ := one _ (by unfold rpartV; rw [if_pos e98])
      have hih := hn _ g1
      refine Ev.step (fun k => by rw [cofferref22_step.l0, if_pos hz, if_pos (by omega), b0, if_pos (by omega), if_pos (by rw [zao]; omega)]) (Ev.bind (rq s.f1 z1) (Ev.congr (fun k => ?_) hih))
      rw [if_pos (by rw [sp_size, zao]; omega), sp_app, w64s (by omega)]
    by_cases e107 : c.toNat = 107
    · obtain ⟨g1, g2⟩ := one _ (by unfold rpartV; rw [if_neg e98, if_pos e107])
      have hih := hn _ g1
      refine Ev.step (fun k => by rw [cofferref22_step.l0, if_pos hz, if_pos (by omega), b0, if_neg (by omega), if_pos (by omega), if_pos (by rw [zao]; omega)]) (Ev.bind (rq s.f2 z2) (Ev.congr (fun k => ?_) hih))
      rw [if_pos (by rw [sp_size, zao]; omega), sp_app, w64s (by omega)]
    by_cases e100 : c.toNat = 100
    · obtain ⟨g1, g2⟩ := one _ (by unfold rpartV; rw [if_neg e98, if_neg e107, if_pos e100])
      have hih := hn _ g1
      refine Ev.step (fun k => by rw [cofferref22_step.l0, if_pos hz, if_pos (by omega), b0, if_neg (by omega), if_neg (by omega), if_pos (by omega), if_pos (by rw [zao]; omega)]) (Ev.bind (rq s.f3 z3) (Ev.congr (fun k => ?_) hih))
      rw [if_pos (by rw [sp_size, zao]; omega), sp_app, w64s (by omega)]
    by_cases e115 : c.toNat = 115
    · obtain ⟨g1, g2⟩ := one _ (by unfold rpartV; rw [if_neg e98, if_neg e107, if_neg e100, if_pos e115])
      have hih := hn _ g1
      have hfi : strconv_FormatInt.f s.f5 10 = some (bs (Lib.itoa s.f5)) := by unfold strconv_FormatInt.f; rw [if_pos ⟨rfl, i5.1, i5.2⟩]
      refine Ev.step (fun k => ?_) hih
      rw [cofferref22_step.l0, if_pos hz, if_pos (by omega), b0, if_neg (by omega), if_neg (by omega), if_neg (by omega), if_pos (by omega), if_pos (by rw [zao]; omega), hfi, Option.bind_some, if_pos (by rw [sp_size, zao]; omega), sp_app, w64s (by omega)]
    by_cases e110 : c.toNat = 110
    · obtain ⟨g1, g2⟩ := one _ (by unfold rpartV; rw [if_neg e98, if_neg e107, if_neg e100, if_neg e115, if_pos e110])
      have hih := hn _ g1
      refine Ev.step (fun k => ?_) hih
      rw [cofferref22_step.l0, if_pos hz, if_pos (by omega), b0, if_neg (by omega), if_neg (by omega), if_neg (by omega), if_neg (by omega), if_pos (by omega), if_pos (by rw [zao]; omega), itoa_is i6, Option.bind_some, if_pos (by rw [sp_size, zao]; omega), sp_app, w64s (by omega)]
    by_cases e77 : c.toNat = 77
    · rw [show rpartV c.toNat s = s.f4.flatMap pairT by unfold rpartV; rw [if_neg e98, if_neg e107, if_neg e100, if_neg e115, if_neg e110, if_pos e77]] at ha
      have hm := rmeta_go (bs f) s i (by omega) T hT hp h4 R hn s.f4.length 0 acc (by omega) (by rw [List.drop_zero]; exact ha)
      refine Ev.step (fun k => ?_) hm
      rw [cofferref22_step.l0, if_pos hz, if_pos (by omega), b0, if_neg (by omega), if_neg (by omega), if_neg (by omega), if_neg (by omega), if_neg (by omega), if_pos (by omega)]
      rfl
    by_cases e75 : c.toNat = 75
    · rw [show rpartV c.toNat s = s.f7.map fun n => bs (Lib.itoa n) by unfold rpartV; rw [if_neg e98, if_neg e107, if_neg e100, if_neg e115, if_neg e110, if_neg e77, if_pos e75]] at ha
      have hm := rkept_go (bs f) s i (by omega) T hT i7 h7 R hn s.f7.length 0 acc (by omega) (by rw [List.drop_zero]; exact ha)
      refine Ev.step (fun k => ?_) hm
      rw [cofferref22_step.l0, if_pos hz, if_pos (by omega), b0, if_neg (by omega), if_neg (by omega), if_neg (by omega), if_neg (by omega), if_neg (by omega), if_neg (by omega), if_pos (by omega)]
      rfl
    · rw [show rpartV c.toNat s = [] by unfold rpartV; rw [if_neg e98, if_neg e107, if_neg e100, if_neg e115, if_neg e110, if_neg e77, if_neg e75]] at ha
      refine Ev.step (fun k => ?_) (hn acc ha)
      rw [cofferref22_step.l0, if_pos hz, if_pos (by omega), b0, if_neg (by omega), if_neg (by omega), if_neg (by omega), if_neg (by omega), if_neg (by omega), if_neg (by omega), if_neg (by omega), w64s (by omega)]
def cv (c : UInt8) : UInt8 := if c = 109 then 77 else if c = 108 then 75 else c
def ltr : List UInt8 := [98, 107, 100, 115, 110, 109, 108]
theorem form_both (k : Int) (h0 : 1 ≤ k) (h1 : k ≤ 18) : ∃ w f : ByteArray, script_formOf.f k = some (w, f) ∧ cofferref22_form.f k = some (w, bs (f.data.toList.map cv)) ∧ f.data.toList.length ≤ 4 ∧ ∀ c ∈ f.data.toList, c ∈ ltr := by
  have hc : k = 1 ∨ k = 2 ∨ k = 3 ∨ k = 4 ∨ k = 5 ∨ k = 6 ∨ k = 7 ∨ k = 8 ∨ k = 9 ∨ k = 10 ∨ k = 11 ∨ k = 12 ∨ k = 13 ∨ k = 14 ∨ k = 15 ∨ k = 16 ∨ k = 17 ∨ k = 18 := by omega
  rcases hc with rfl | rfl | rfl | rfl | rfl | rfl | rfl | rfl | rfl | rfl | rfl | rfl | rfl | rfl | rfl | rfl | rfl | rfl
  all_goals exact ⟨_, _, rfl, rfl, by decide, by decide⟩
theorem rpart_cv (s : S55) : ∀ c ∈ ltr, rpartV (cv c).toNat s = partV c.toNat (givnS s) := by
  intro c hc
  simp only [ltr, List.mem_cons, List.not_mem_nil, or_false] at hc
  rcases hc with rfl | rfl | rfl | rfl | rfl | rfl | rfl <;> rfl
theorem rparts_cv (s : S55) (f : List UInt8) (h : ∀ c ∈ f, c ∈ ltr) : rpartsV (f.map cv) s = partsV f (givnS s) := by
  unfold rpartsV partsV
  induction f with
  | nil => rfl
  | cons c r ih =>
    rw [List.map_cons, List.flatMap_cons, List.flatMap_cons, ih (fun x hx => h x (List.mem_cons_of_mem _ hx)), rpart_cv s c (h c List.mem_cons_self)]
theorem join_tl (w : ByteArray) (ps : List ByteArray) : (joinSp (w :: ps)).data.toList = w.data.toList ++ tl ps := by
  unfold joinSp tl
  rw [zbc, List.map_cons, Lib.join_cons]
  congr 1
  unfold Lib.joinTail
  induction ps with
  | nil => rfl
  | cons p r ih => rw [List.map_cons, List.map_cons, List.flatten_cons, List.flatMap_cons, ih]; rfl
theorem rstep_ev (s : S55) (hS : StIn s) (hw : wS s ≤ 4194304) (h0 : 1 ≤ s.f0) (h1 : s.f0 ≤ 18) : Ev (fun k => cofferref22_step.f k s.f0 s.f1 s.f2 s.f3 s.f4 s.f5 s.f6 s.f7) (stepL (givnS s)) := by
  obtain ⟨w, f, hf, hr, hl, hc⟩ := form_both s.f0 h0 h1
  have he : (stepL (givnS s)).data.toList = w.data.toList ++ tl (rpartsV ((f.data.toList.map cv).drop 0) s) := by
    unfold stepL
    rw [show (givnS s).f0 = s.f0 from rfl, hf]
    dsimp only
    rw [join_tl, List.drop_zero, rparts_cv s _ hc]
  have hz : (stepL (givnS s)).data.toList.length ≤ 1099511627776 := by
    have h2 := parts_sz f.data.toList s hS
    have h3 := join_sz (w :: partsV f.data.toList (givnS s))
    obtain ⟨w2, f2, hf2, hw8, _⟩ := form_szs s.f0
    rw [hf] at hf2
    cases hf2
    rw [szs_cons] at h3
    have h4 : f.data.toList.length * (22 * wS s) ≤ 4 * (22 * wS s) := Nat.mul_le_mul_right _ hl
    unfold stepL
    rw [show (givnS s).f0 = s.f0 from rfl, hf]
    dsimp only
    omega
  have hg := rstep_go (f.data.toList.map cv) (by rw [List.length_map]; omega) s hS hw _ hz (f.data.toList.map cv).length 0 w.data.toList (by omega) he.symm
  rw [bs_self, bs_self] at hg
  refine Ev.congr (fun k => ?_) hg
  unfold cofferref22_step.f
  rw [hr]
  rfl
end Go.Proofs.YtdmlgligljagoaaDoor

set_option linter.unusedVariables false
set_option linter.unusedSimpArgs false
namespace Go.Proofs.YtdmlgligljagoaaDoor
open Go.RowKit Go.Proofs.YtdmlgligljagoaaDoorW.PrintWords PS

def linesR : List UInt8 → List UInt8 → List (List UInt8)
  | cur, [] => if cur = [] then [] else [cur]
  | cur, c :: r => if c = 10 then cur :: linesR [] r else linesR (cur ++ [c]) r
theorem dropE_cons (a : List UInt8) (L : List (List UInt8)) (h : L ≠ []) : dropE (a :: L) = a :: dropE L := by
  unfold dropE
  rw [List.getLast?_cons_of_ne_nil h, List.dropLast_cons_of_ne_nil h]
  split <;> rfl
theorem linesR_is (r : List UInt8) : ∀ cur a t, zas r = a :: t → linesR cur r = dropE ((cur ++ a) :: t) := by
  induction r with
  | nil =>
    intro cur a t h
    rw [zas] at h
    cases h
    rw [linesR, List.append_nil]
    unfold dropE
    simp
  | cons c r ih =>
    intro cur a t h
    rw [zas] at h
    rw [linesR]
    by_cases hc : c = 10
    · rw [if_pos hc] at h
      cases h
      obtain ⟨b, u, hb⟩ : ∃ b u, zas r = b :: u := by
        cases hs : zas r with
        | nil => exact absurd hs (splitNl_ne r)
        | cons b u => exact ⟨b, u, rfl⟩
      rw [if_pos hc, ih [] b u hb, List.append_nil, dropE_cons _ _ (splitNl_ne r), hb]
      rfl
    · rw [if_neg hc] at h
      obtain ⟨b, u, hb⟩ : ∃ b u, zas r = b :: u := by
        cases hs : zas r with
        | nil => exact absurd hs (splitNl_ne r)
        | cons b u => exact ⟨b, u, rfl⟩
      rw [hb] at h
      injection h with h1 h2
      rw [if_neg hc, ih (cur ++ [c]) b u hb, List.append_assoc, ← h1, ← h2]
      rfl
theorem linesR_0 (r : List UInt8) : linesR [] r = dropE (zas r) := by
  obtain ⟨b, u, hb⟩ : ∃ b u, zas r = b :: u := by
    cases hs : zas r with
    | nil => exact absurd hs (splitNl_ne r)
    | cons b u => exact ⟨b, u, rfl⟩
  rw [linesR_is r [] b u hb, hb]; rfl
def lineRes (L : List (List UInt8)) : List ByteArray × Bool := if L.any (fun x => decide (8192 < x.length)) = true then ([], false) else (L.map bs, decide (L.length ≤ 1024))
theorem rl1_go (L : List (List UInt8)) (hL : L.length ≤ 4294967296) : ∀ d i, i + d = L.length → (∀ x ∈ L.take i, x.length ≤ 8192) → Ev (fun k => cofferref22_lines.l1 k (L.map bs) (i : Int)) (lineRes L) := by
  intro d
  induction d with
  | zero =>
    intro i hi h
    rw [List.take_of_length_le (by omega)] at h
    refine Ev.step (f := fun _ => some _) (fun k => ?_) (Ev.now _)
    rw [cofferref22_lines.l1, if_neg (by rw [List.length_map]; omega)]
    unfold lineRes
    rw [if_neg (by
      rw [List.any_eq_true]
      rintro ⟨x, hx, h2⟩
      have := h x hx
      simp at h2
      omega), List.length_map]
    congr 2
    exact decide_eq_decide.2 (by omega)
  | succ d ih =>
    intro i hi h
    have hlt : i < L.length := by omega
    have hr : rdOf ByteArray.empty (L.map bs) (i : Int) = bs (L[i]'hlt) := by unfold rdOf; simp [hlt]
    by_cases hx : (L[i]'hlt).length ≤ 8192
    · refine Ev.step (fun k => ?_) (ih (i + 1) (by omega) (fun x hm => ?_))
      · rw [cofferref22_lines.l1, if_pos (by rw [List.length_map]; omega), if_pos (by omega), hr, zao, if_neg (by omega), w64s (by omega)]
      · rw [List.take_succ_eq_append_getElem hlt, List.mem_append, List.mem_singleton] at hm
        rcases hm with hm | rfl
        · exact h x hm
        · exact hx
    · refine Ev.step (f := fun _ => some _) (fun k => ?_) (Ev.now _)
      rw [cofferref22_lines.l1, if_pos (by rw [List.length_map]; omega), if_pos (by omega), hr, zao, if_pos (by omega)]
      unfold lineRes
      rw [if_pos (List.any_eq_true.2 ⟨_, List.getElem_mem hlt, by simp; omega⟩)]
theorem rl0_go (t : List UInt8) (ht : t.length ≤ 65536) : ∀ d i fr (acc : List (List UInt8)), i + d = t.length → fr ≤ i → acc.length ≤ i →
    Ev (fun k => cofferref22_lines.l0 k (bs t) (acc.map bs) (fr : Int) (i : Int)) (lineRes (acc ++ linesR ((t.drop fr).take (i - fr)) (t.drop i))) := by
  have fin : ∀ L : List (List UInt8), L.length ≤ 65537 → Ev (fun k => cofferref22_lines.j1 k (L.map bs)) (lineRes L) := fun L hL => by
    refine Ev.step (fun k => ?_) (rl1_go L (by omega) L.length 0 (by omega) (fun x hx => by simp at hx))
    rw [cofferref22_lines.j1]; rfl
  intro d
  induction d with
  | zero =>
    intro i fr acc hi hf ha
    rw [List.drop_of_length_le (i := i) (by omega), linesR]
    have hcur : (t.drop fr).take (i - fr) = t.drop fr := List.take_of_length_le (by simp; omega)
    rw [hcur]
    by_cases he : fr < t.length
    · have hne : t.drop fr ≠ [] := fun e => by have := congrArg List.length e; simp at this; omega
      rw [if_neg hne]
      refine Ev.step (fun k => ?_) (fin (acc ++ [t.drop fr]) (by simp; omega))
      have hx : (bs t).extract fr t.length = bs (t.drop fr) := by rw [bs_extract, take_drop_len]
      rw [cofferref22_lines.l0, zao, if_neg (by omega), if_pos (by omega), if_pos (by omega), if_pos (by omega), if_pos (by rw [List.length_map]; omega), Int.toNat_natCast, hx, List.map_append]
      rfl
    · have hne : t.drop fr = [] := List.drop_of_length_le (by omega)
      rw [if_pos hne, List.append_nil]
      refine Ev.step (fun k => ?_) (fin acc (by omega))
      rw [cofferref22_lines.l0, zao, if_neg (by omega), if_neg (by omega)]
  | succ d ih =>
    intro i fr acc hi hf ha
    have hlt : i < t.length := by omega
    have b0 : bt (bs t) (i : Int) = ((t[i]'hlt).toNat : Int) := bt_bs t i hlt
    rw [List.drop_eq_getElem_cons hlt, linesR]
    have hst : ∀ a, a ≤ i → (t.drop a).take (i + 1 - a) = (t.drop a).take (i - a) ++ [t[i]'hlt] := fun a ha => by
      rw [show i + 1 - a = (i - a) + 1 from by omega, List.take_succ_eq_append_getElem (by simp; omega)]
      congr 2
      simp [show a + (i - a) = i from by omega]
    by_cases hc : t[i]'hlt = 10
    · rw [if_pos hc]
      have hih := ih (i + 1) (i + 1) (acc ++ [(t.drop fr).take (i - fr)]) (by omega) (Nat.le_refl _) (by simp; omega)
      rw [Nat.sub_self, List.take_zero, List.append_assoc] at hih
      refine Ev.step (fun k => ?_) hih
      have hx : (bs t).extract fr i = bs ((t.drop fr).take (i - fr)) := by rw [bs_extract]
      rw [cofferref22_lines.l0, zao, if_pos (by omega), if_pos (by omega), b0, hc, if_pos (by decide), if_pos (by omega), if_pos (by omega), if_pos (by omega), if_pos (by rw [List.length_map]; omega), Int.toNat_natCast, Int.toNat_natCast, hx, w64s (by omega), List.map_append]
      rfl
    · rw [if_neg hc]
      have hih := ih (i + 1) fr acc (by omega) (by omega) (by omega)
      rw [hst fr hf] at hih
      refine Ev.step (fun k => ?_) hih
      rw [cofferref22_lines.l0, zao, if_pos (by omega), if_pos (by omega), b0, if_neg (fun e => hc (UInt8.toNat_inj.1 (by rw [show (t[i]'hlt).toNat = 10 from by omega]; rfl))), w64s (by omega)]
theorem rlines_ev (t : List UInt8) : ∃ ls, Ev (fun k => cofferref22_lines.f k (bs t)) (ls, !longV t) := by
  by_cases h : t.length > 65536
  · refine ⟨[], Ev.congr (fun k => ?_) (Ev.now _)⟩
    unfold cofferref22_lines.f longV
    rw [zao, if_pos (by omega)]
    simp [h]
  · have hg := rl0_go t (by omega) t.length 0 0 [] (by omega) (Nat.le_refl _) (Nat.zero_le _)
    rw [Nat.sub_self, List.take_zero, List.drop_zero, linesR_0, List.nil_append] at hg
    have e : (lineRes (dropE (zas t))).2 = !longV t := by
      unfold lineRes longV
      split
      · next h2 => simp [h2]
      · next h2 =>
        have h3 : ((dropE (zas t)).any fun x => decide (8192 < x.length)) = false := by simpa using h2
        rw [h3, decide_eq_false (show ¬ 65536 < t.length by omega), Bool.false_or, Bool.false_or, ← decide_not]
        exact decide_eq_decide.2 (by omega)
    have hg2 : Ev (fun k => cofferref22_lines.l0 k (bs t) ([] : List ByteArray) ((0 : Nat) : Int) ((0 : Nat) : Int)) ((lineRes (dropE (zas t))).1, !longV t) := by rw [← e]; exact hg
    refine ⟨_, Ev.congr (fun k => ?_) hg2⟩
    unfold cofferref22_lines.f
    rw [zao, if_neg (by omega)]
    rfl
end Go.Proofs.YtdmlgligljagoaaDoor

namespace Go.Proofs.YtdmlgligljagoaaDoor.PS
open Go.RowKit Go.Proofs.YtdmlgligljagoaaDoorW.PrintWords Go.Proofs.YtdmlgligljagoaaDoorW.PrintLast Go.Proofs.YtdmlgligljagoaaDoorW.PrintMore
attribute [local go_sem] zbg zbh max_two min_two zbe zbf zbi zbj   -- for this text's walks alone
set_option linter.unusedVariables false
set_option linter.unusedSimpArgs false

/-! ### cofferref22_cleared: function 30 -/
end Go.Proofs.YtdmlgligljagoaaDoor.PS

set_option linter.unusedVariables false
set_option linter.unusedSimpArgs false
namespace Go.Proofs.YtdmlgligljagoaaDoor
open Go.RowKit Go.Proofs.YtdmlgligljagoaaDoorW.PrintWords PS

def KindQ (c : S57) : Prop := KindOK (givnC c)
instance (c : S57) : Decidable (KindQ c) := inferInstanceAs (Decidable (KindOK _))

end Go.Proofs.YtdmlgligljagoaaDoor

set_option linter.unusedVariables false
set_option linter.unusedSimpArgs false
namespace Go.Proofs.YtdmlgligljagoaaDoor
open Go.RowKit Go.Proofs.YtdmlgligljagoaaDoorW.PrintWords PS

theorem cell_old {w wr : World} {p : Addr} {v : Value} (hb : Below w.heap.size w wr) (h : w.cell? p = some v) : wr.cell? p = some v := (hb.cell (World.block_lt_of_cell? _ _ h)).trans h
end Go.Proofs.YtdmlgligljagoaaDoor

set_option linter.unusedVariables false
set_option linter.unusedSimpArgs false
namespace Go.Proofs.YtdmlgligljagoaaDoor
open Go.RowKit Go.Proofs.YtdmlgligljagoaaDoorW.PrintWords Go.Proofs.YtdmlgligljagoaaDoorW.PrintLast Go.Proofs.YtdmlgligljagoaaDoorW.PrintMore PS
def RPost (l : List S57) (w : World) (e : Ending) (w' : World) : Prop := e = .returned (.tuple #[.string (bs (printV (l.map givnC)).1), .int .i64 (printV (l.map givnC)).2]) ∧ Below w.heap.size w w'
theorem rp_bad {l : List S57} {w wr : World} (i : Nat) (hi : i < l.length) (hk : ¬ KindQ l[i]) (hb : Below w.heap.size w wr) : RPost l w (.returned (.tuple #[.string ⟨#[]⟩, .int .i64 110])) wr := by
  refine ⟨?_, hb⟩
  rw [printV_bad (l.map givnC) (fun h2 => hk (h2 _ (List.mem_map_of_mem (List.getElem_mem hi))))]
  rfl
theorem kq_next {l : List S57} {i : Nat} (hi : i < l.length) (hk : KindQ l[i]) (h : ∀ x ∈ l.take i, KindQ x) : ∀ x ∈ l.take (i + 1), KindQ x := by
  intro x hx
  rw [List.take_succ_eq_append_getElem hi, List.mem_append, List.mem_singleton] at hx
  rcases hx with hx | rfl
  · exact h x hx
  · exact hk
def textG (l : List S57) (k : Nat) : List UInt8 := textT ((l.map givnC).take k)
theorem textG_next (l : List S57) (k : Nat) (h : k < l.length) : textG l (k + 1) = textG l k ++ (lineT (givnC (l[k]'h)) ++ [10]) := by
  unfold textG
  rw [textT_take _ _ (by rw [List.length_map]; exact h), List.getElem_map]
theorem textG_all (l : List S57) : textG l l.length = textT (l.map givnC) := by
  unfold textG
  rw [List.take_of_length_le (by rw [List.length_map]; exact Nat.le_refl _)]
theorem textG_le (l : List S57) (k : Nat) : (textG l k).length ≤ (textT (l.map givnC)).length := textT_le _ k
theorem longV_of {s : List UInt8} (h : 65536 < s.length) : longV s = true := by unfold longV; rw [decide_eq_true h]; rfl
theorem rp_long {l : List S57} {w wr : World} (hk : ∀ x ∈ l, KindQ x) (h : longV (textT (l.map givnC)) = true) (hb : Below w.heap.size w wr) : RPost l w (.returned (.tuple #[.string ⟨#[]⟩, .int .i64 3])) wr := by
  refine ⟨?_, hb⟩
  rw [printV_ok (l.map givnC) (fun c hc => by obtain ⟨x, hx, rfl⟩ := List.mem_map.1 hc; exact hk x hx), if_pos h]
  rfl
theorem rp_text {l : List S57} {w wr : World} (hk : ∀ x ∈ l, KindQ x) (h : ¬ longV (textT (l.map givnC)) = true) (hb : Below w.heap.size w wr) : RPost l w (.returned (.tuple #[.string (bs (textT (l.map givnC))), .int .i64 0])) wr := by
  refine ⟨?_, hb⟩
  rw [printV_ok (l.map givnC) (fun c hc => by obtain ⟨x, hx, rfl⟩ := List.mem_map.1 hc; exact hk x hx), if_neg h]
def rpT13 : Bool × List (List Nat × List Nat) := (true, [([], []), ([0], [0]), ([], []), ([], []), ([2, 3], [2, 3]), ([4], [4]), ([5], [5]), ([6], [6]), ([1, 7], [1, 7]), ([8], [8]), ([], []), ([], []), ([10, 11], [10, 11]), ([12], [12]), ([13], [13]), ([14, 7], [14]), ([9, 15], [9, 15]), ([16, 15, 0, 1, 2, 3, 4, 5, 6, 7, 8, 9, 10, 11, 12, 13, 14, 15, 16], [0, 16])])
def rpB13 : List Nat := [0, 1, 0, 0, 12, 28, 60, 124, 255, 511, 0, 0, 3072, 7168, 15360, 31996, 65535, 131071]
theorem rptab13 : rtab .any (opsOf Tryd.f11 13) = rpT13 := by kernel_rfl
theorem rpbits13 : waitsOk rpT13.2 rpB13 = true := by kernel_rfl
attribute [local go_sem] zao zbb
set_option maxRecDepth 100000 in
set_option maxHeartbeats 4000000 in
theorem rprint_any (l : List S57) (A : Option Addr) (c : Nat) (w : World) (hC : Kd.C k57 w A l.length l) (hc : l.length ≤ c) (hT : Tab w) (hI : ∀ x ∈ l, CmIn x) (hw : (l.map wC).sum ≤ 4194304) :
    Calls Tryd.prog 11 #[.slice A l.length c] w (RPost l w) := by
  have HC := Lib.hid hC
  have HT := Lib.hid hT
  have HI := Lib.hid hI
  have hll := wC_len l
  have hlen : l.length ≤ 4194304 := by omega
  have HW := Lib.hid hw
  clear hC hT hI hw hll
  go_enter Tryd.func11, Tryd.ntmps11
  go_wp2
  go_loopw [4] (fun i wr => ∃ k : Nat, k ≤ l.length ∧ i = .int .i64 k ∧ Hid (∀ x ∈ l.take k, KindQ x) ∧ Hid (Below w.heap.size w wr)) (fun i _ => l.length - (intOf i).toNat)
  case atStart => exact ⟨0, Nat.zero_le _, rfl, Lib.hid (fun x hx => (by simp at hx)), Lib.hid (Below.refl _ _)⟩
  case round =>
    obtain ⟨k, hk, rfl, HK, HB⟩ := hrel
    by_cases hlt : k < l.length
    · obtain ⟨ad, A7, c7, A10, c10, hA, a0, a1, a2, a3, a4, a5, a6, a7, a8, a9, a10, a11, _⟩ := at_T57 (Kd.C_below HC.out HB.out) (k : Int) (by omega) (by omega)
      rw [Int.toNat_natCast, rdQ_get l k hlt] at a0 a3
      have HX := Lib.hid (fun (hq : ¬ KindQ l[k]) W (hb : Below w.heap.size w W) => rp_bad (w := w) (wr := W) k hlt hq hb)
      have HN := Lib.hid (fun (hq : KindQ l[k]) => kq_next hlt hq HK.out)
      clear a1 a2 a4 a5 a6 a7 a8 a9 a10 a11
      generalize l[k] = x at *
      obtain ⟨x0, x1, x2, ⟨s0, s1, s2, s3, s4, s5, s6, s7⟩, x4⟩ := x
      dsimp only at a0 a3
      subst hA
      by_cases hq : KindQ ⟨x0, x1, x2, ⟨s0, s1, s2, s3, s4, s5, s6, s7⟩, x4⟩
      · have HN2 := Lib.hid (HN.out hq)
        clear HX HN
        rcases (show x0 = 1 ∨ (x0 = 2 ∧ 1 ≤ s0 ∧ s0 ≤ 18) ∨ x0 = 3 ∨ x0 = 4 ∨ x0 = 5 from hq) with rfl | ⟨rfl, hs0, hs1⟩ | rfl | rfl | rfl
        all_goals clear hq
        · go_wp2
          go_roundw
          case rel => exact ⟨k + 1, by omega, by go_num, HN2, HB⟩
          case measure => simp [intOf]; omega
        · have b1 : decide (s0 < 1) = false := by simp; omega
          have b2 : decide (18 < s0) = false := by simp; omega
          go_wp2
          go_roundw
          case rel => exact ⟨k + 1, by omega, by go_num, HN2, HB⟩
          case measure => simp [intOf]; omega
        · go_wp2
          go_roundw
          case rel => exact ⟨k + 1, by omega, by go_num, HN2, HB⟩
          case measure => simp [intOf]; omega
        · go_wp2
          go_roundw
          case rel => exact ⟨k + 1, by omega, by go_num, HN2, HB⟩
          case measure => simp [intOf]; omega
        · go_wp2
          go_roundw
          case rel => exact ⟨k + 1, by omega, by go_num, HN2, HB⟩
          case measure => simp [intOf]; omega
      · have HE := Lib.hid (HX.out hq _ HB.out)
        have hq2 : ¬ (x0 = 1 ∨ (x0 = 2 ∧ 1 ≤ s0 ∧ s0 ≤ 18) ∨ x0 = 3 ∨ x0 = 4 ∨ x0 = 5) := hq
        clear HX HN hq
        by_cases g0 : x0 < 1
        · have b1 : decide (x0 < 1) = true := by simpa using g0
          go_wp2
          go_ret2
          exact HE.out
        · have b1 : decide (x0 < 1) = false := by simpa using g0
          by_cases g1 : 5 < x0
          · have b2 : decide (5 < x0) = true := by simpa using g1
            go_wp2
            go_ret2
            exact HE.out
          · obtain rfl : x0 = 2 := by omega
            clear b1 g0 g1
            by_cases g2 : s0 < 1
            · have b3 : decide (s0 < 1) = true := by simpa using g2
              go_wp2
              go_ret2
              exact HE.out
            · have b3 : decide (s0 < 1) = false := by simpa using g2
              have b4 : decide (18 < s0) = true := by simp; omega
              go_wp2
              go_ret2
              exact HE.out
    · obtain rfl : k = l.length := by omega
      have HK2 : Hid (∀ x ∈ l, KindQ x) := Lib.hid (by have := HK.out; rwa [List.take_length] at this)
      clear HK
      have ht0 : textG l 0 = [] := rfl
      go_wp2
      go_loopw [5, 6] (fun v i wr => ∃ k : Nat, k ≤ l.length ∧ i = .int .i64 k ∧ v = .string (bs (textG l k)) ∧ Hid ((textG l k).length ≤ 65536) ∧ Hid (Below w.heap.size w wr)) (fun _ i _ => l.length - (intOf i).toNat)
      case atStart => exact ⟨0, Nat.zero_le _, rfl, rfl, Lib.hid (Nat.zero_le _), HB⟩
      case round =>
        clear HB ht0
        obtain ⟨k, hk, rfl, rfl, HZ, HB⟩ := hrel
        by_cases hlt : k < l.length
        · obtain ⟨ad, A7, c7, A10, c10, hA, a0, a1, a2, a3, a4, a5, a6, a7, a8, a9, a10, a11, l7, r7, l10, r10⟩ := at_T57 HC.out (k : Int) (by omega) (by omega)
          rw [Int.toNat_natCast, rdQ_get l k hlt] at a0 a1 a2 a3 a4 a5 a6 a7 a8 a9 a10 a11
          rw [rdQ_get l k hlt] at l7 r7 l10 r10
          have HL7 := Lib.hid l7
          have HR7 := Lib.hid r7
          have HL10 := Lib.hid l10
          have HR10 := Lib.hid r10
          have HIx := Lib.hid (HI.out _ (List.getElem_mem hlt))
          have hq := HK2.out _ (List.getElem_mem hlt)
          have HTn := Lib.hid (textG_next l k hlt)
          have HZ1 := Lib.hid (textG_le l (k + 1))
          have hwx := wC_mem (List.getElem_mem hlt)
          have hlw := lineT_weight _ HIx.out
          have hz := HZ.out
          have HWx : Hid (wC l[k] ≤ 4194304) := Lib.hid (by have := HW.out; omega)
          have hll : (lineT (givnC l[k])).length ≤ 419430400 := by have := HWx.out; omega
          clear l7 r7 l10 r10 hlw hwx
          generalize l[k] = x at *
          obtain ⟨x0, x1, x2, ⟨s0, s1, s2, s3, s4, s5, s6, s7⟩, x4⟩ := x
          dsimp only at a0 a1 a2 a3 a4 a5 a6 a7 a8 a9 a10 a11
          subst hA
          have b0 := cell_old HB.out a0
          have b1 := cell_old HB.out a1
          have b2 := cell_old HB.out a2
          have b3 := cell_old HB.out a3
          have b4 := cell_old HB.out a4
          have b5 := cell_old HB.out a5
          have b6 := cell_old HB.out a6
          have b7 := cell_old HB.out a7
          have b8 := cell_old HB.out a8
          have b9 := cell_old HB.out a9
          have b10 := cell_old HB.out a10
          have b11 := cell_old HB.out a11
          rcases (show x0 = 1 ∨ (x0 = 2 ∧ 1 ≤ s0 ∧ s0 ≤ 18) ∨ x0 = 3 ∨ x0 = 4 ∨ x0 = 5 from hq) with rfl | ⟨rfl, hs0, hs1⟩ | rfl | rfl | rfl
          all_goals clear hq
          focus
            have e1 : bs (textG l k) ++ ⟨#[119, 111, 114, 108, 100, 32]⟩ ++ bs (Lib.itoa x1) ++ ⟨#[32]⟩ ++ bs (Lib.itoa x2) ++ ⟨#[10]⟩ = bs (textG l (k + 1)) := by
              rw [HTn.out, show (⟨#[119, 111, 114, 108, 100, 32]⟩ : ByteArray) = bs [119, 111, 114, 108, 100, 32] from rfl, show (⟨#[32]⟩ : ByteArray) = bs [32] from rfl, show (⟨#[10]⟩ : ByteArray) = bs [10] from rfl, zbb, zbb, zbb, zbb, zbb]
              simp [lineT, givnC]
            have i1 : (bs (Lib.itoa x1)).size ≤ 21 := by rw [zao]; exact itoa_21 HIx.out.2.1
            have i2 : (bs (Lib.itoa x2)).size ≤ 21 := by rw [zao]; exact itoa_21 HIx.out.2.2.1
            have H1 := Lib.hid (itoa_is HIx.out.2.1)
            have H2 := Lib.hid (itoa_is HIx.out.2.2.1)
            generalize bs (Lib.itoa x1) = q1 at *
            generalize bs (Lib.itoa x2) = q2 at *
            dsimp only at H1 H2
            go_wp2_with fail
            refine start_ (n := 18) (S := fun w' => w'.cell? ⟨(ad.add (k * 12)).block, (ad.add (k * 12)).off + 1, none⟩ = some (.int .i64 x1) ∧ w'.cell? ⟨(ad.add (k * 12)).block, (ad.add (k * 12)).off + 2, none⟩ = some (.int .i64 x2)) (ds := []) #[false, false, false, false, false, false, false, false, false, false, false, false, false, false, false, false, false, false] (by kernel_rfl) rfl rfl ⟨cell_old (below_drew HB.out) a1, cell_old (below_drew HB.out) a2⟩ (fun hHeld => ?_); refine zbp rptab13 rpbits13 (fun HT_ HW_ => ?_)
            have HB1 := Lib.hid (below_drew HB.out)
            generalize wr.drew = w0 at HB1 hHeld ⊢
            have t1 : ¬ 9223372036854775807 < (textG l k).length + 6 := by omega
            have t2 : ¬ 9223372036854775807 < (textG l k).length + 6 + q1.size := by omega
            have t3 : ¬ 9223372036854775807 < (textG l k).length + 6 + q1.size + 1 := by omega
            have t4 : ¬ 9223372036854775807 < (textG l k).length + 6 + q1.size + 1 + q2.size := by omega
            have t5 : ¬ 9223372036854775807 < (textG l k).length + 6 + q1.size + 1 + q2.size + 1 := by omega
            refine pure_ (i := 0) (N := some 70) (v := ?_) (a' := ?_) #[true, false, false, false, false, false, false, false, false, false, false, false, false, false, false, false, false, false] rfl rfl (zak HT_.out (by kernel_rfl)) (fun _ _ _ h => h) (Or.inl ⟨by rfl, ?_⟩) ?_ ?_
            rotate_left
            · intro w'
              go_simp
              with_reducible rfl
            rotate_left
            · simp only [Act.put, List.setIfInBounds_toArray, List.set_cons_zero, List.set_cons_succ, i64_w, i32_w]
              rfl
            refine pure_ (i := 1) (N := some 71) (v := ?_) (a' := ?_) #[true, true, false, false, false, false, false, false, false, false, false, false, false, false, false, false, false, false] rfl rfl (zak HT_.out (by kernel_rfl)) (fun _ _ _ h => h) (Or.inl ⟨by rfl, ?_⟩) ?_ ?_
            rotate_left
            · intro w'
              go_simp
              with_reducible rfl
            rotate_left
            · simp only [Act.put, List.setIfInBounds_toArray, List.set_cons_zero, List.set_cons_succ, i64_w, i32_w]
              rfl
            refine pure_ (i := 2) (N := some 72) (v := ?_) (a' := ?_) #[true, true, true, false, false, false, false, false, false, false, false, false, false, false, false, false, false, false] rfl rfl (zak HT_.out (by kernel_rfl)) (fun _ _ _ h => h) (Or.inl ⟨by rfl, ?_⟩) ?_ ?_
            rotate_left
            · intro w'
              go_simp
              with_reducible rfl
            rotate_left
            · simp only [Act.put, List.setIfInBounds_toArray, List.set_cons_zero, List.set_cons_succ, i64_w, i32_w]
              rfl
            refine pure_ (i := 3) (N := some 73) (v := ?_) (a' := ?_) #[true, true, true, true, false, false, false, false, false, false, false, false, false, false, false, false, false, false] rfl rfl (zak HT_.out (by kernel_rfl)) (fun _ _ _ h => h) (Or.inl ⟨by rfl, ?_⟩) ?_ ?_
            rotate_left
            · intro w'
              go_simp
              with_reducible rfl
            rotate_left
            · simp only [Act.put, List.setIfInBounds_toArray, List.set_cons_zero, List.set_cons_succ, i64_w, i32_w]
              rfl
            refine pure_ (i := 4) (N := some 74) (v := ?_) (a' := ?_) #[true, true, true, true, true, false, false, false, false, false, false, false, false, false, false, false, false, false] rfl rfl (zak HT_.out (by kernel_rfl)) (fun _ _ _ h => h) (Or.inl ⟨by rfl, ?_⟩) ?_ ?_
            rotate_left
            · intro w'
              go_simp
              with_reducible rfl
            rotate_left
            · simp only [Act.put, List.setIfInBounds_toArray, List.set_cons_zero, List.set_cons_succ, i64_w, i32_w]
              rfl
            refine pure_ (i := 5) (N := some 75) (v := ?_) (a' := ?_) #[true, true, true, true, true, true, false, false, false, false, false, false, false, false, false, false, false, false] rfl rfl (zak HT_.out (by kernel_rfl)) (fun _ _ _ h => h) (Or.inl ⟨by rfl, ?_⟩) ?_ ?_
            rotate_left
            · intro w'
              go_simp
              with_reducible rfl
            rotate_left
            · simp only [Act.put, List.setIfInBounds_toArray, List.set_cons_zero, List.set_cons_succ, i64_w, i32_w]
              rfl
            refine pure_ (i := 10) (N := some 80) (v := ?_) (a' := ?_) #[true, true, true, true, true, true, false, false, false, false, true, false, false, false, false, false, false, false] rfl rfl (zak HT_.out (by kernel_rfl)) (fun _ _ _ h => h) (Or.inl ⟨by rfl, ?_⟩) ?_ ?_
            rotate_left
            · intro w'
              go_simp
              with_reducible rfl
            rotate_left
            · simp only [Act.put, List.setIfInBounds_toArray, List.set_cons_zero, List.set_cons_succ, i64_w, i32_w]
              rfl
            refine pure_ (i := 11) (N := some 81) (v := ?_) (a' := ?_) #[true, true, true, true, true, true, false, false, false, false, true, true, false, false, false, false, false, false] rfl rfl (zak HT_.out (by kernel_rfl)) (fun _ _ _ h => h) (Or.inl ⟨by rfl, ?_⟩) ?_ ?_
            rotate_left
            · intro w'
              go_simp
              with_reducible rfl
            rotate_left
            · simp only [Act.put, List.setIfInBounds_toArray, List.set_cons_zero, List.set_cons_succ, i64_w, i32_w]
              rfl
            refine pure_ (i := 12) (N := some 82) (v := ?_) (a' := ?_) #[true, true, true, true, true, true, false, false, false, false, true, true, true, false, false, false, false, false] rfl rfl (zak HT_.out (by kernel_rfl)) (fun _ _ _ h => h) (Or.inl ⟨by rfl, ?_⟩) ?_ ?_
            rotate_left
            · intro w'
              go_simp
              with_reducible rfl
            rotate_left
            · simp only [Act.put, List.setIfInBounds_toArray, List.set_cons_zero, List.set_cons_succ, i64_w, i32_w]
              rfl
            refine pure_ (i := 13) (N := some 83) (v := ?_) (a' := ?_) #[true, true, true, true, true, true, false, false, false, false, true, true, true, true, false, false, false, false] rfl rfl (zak HT_.out (by kernel_rfl)) (fun _ _ _ h => h) (Or.inl ⟨by rfl, ?_⟩) ?_ ?_
            rotate_left
            · intro w'
              go_simp
              with_reducible rfl
            rotate_left
            · simp only [Act.put, List.setIfInBounds_toArray, List.set_cons_zero, List.set_cons_succ, i64_w, i32_w]
              rfl
            refine take_ (i := 6) (N := some 76) (v := ?_) (a' := ?_) #[true, true, true, true, true, true, true, false, false, false, true, true, true, true, false, false, false, false] rfl rfl (zat HT_.out HW_.out (by kernel_rfl)) (fun _ _ _ h => h) (Or.inl ⟨by rfl, ?_⟩) hHeld ?_ ?_
            rotate_left
            · rintro w' ⟨s0, s1⟩
              go_simp
              with_reducible rfl
            rotate_left
            · simp only [Act.put, List.setIfInBounds_toArray, List.set_cons_zero, List.set_cons_succ, i64_w, i32_w]
              rfl
            refine take_ (i := 14) (N := some 84) (v := ?_) (a' := ?_) #[true, true, true, true, true, true, true, false, false, false, true, true, true, true, true, false, false, false] rfl rfl (zat HT_.out HW_.out (by kernel_rfl)) (fun _ _ _ h => h) (Or.inl ⟨by rfl, ?_⟩) hHeld ?_ ?_
            rotate_left
            · rintro w' ⟨s0, s1⟩
              go_simp
              with_reducible rfl
            rotate_left
            · simp only [Act.put, List.setIfInBounds_toArray, List.set_cons_zero, List.set_cons_succ, i64_w, i32_w]
              rfl
            refine one_ (i := 7) (N := some 77) #[true, true, true, true, true, true, true, true, false, false, true, true, true, true, true, false, false, false] rfl rfl (one_of HT_.out (by kernel_rfl)) (by decide) (fun K hK => ?_)
            refine goes_ Tryd.func22 (by kernel_rfl) rfl #[.int .i64 x1] (by rfl) rfl rfl (by (try simp only [List.map_toArray, List.map_cons, List.map_nil]); first | done | rfl) ?_
            with_reducible refine (strconv_Itoa.calls x1 q1 _ (zba HT.out HB1.out) H1.out).mono ?_
            rintro e w1 ⟨rfl, hb⟩
            refine ⟨_, rfl, ?_⟩
            have HB2 := Lib.hid (HB1.out.trans (hb.mono HB1.out.size))
            clear hb
            refine hK.out _ _ ⟨cell_old HB2.out a1, cell_old HB2.out a2⟩ (fun hHeld => ?_)
            clear hK K
            refine norm_ (a' := ?_) ?_ ?_
            rotate_left
            · show Act.put _ (some 77) _ = _
              simp only [Act.put, List.setIfInBounds_toArray, List.set_cons_zero, List.set_cons_succ, i64_w, i32_w]
              rfl
            refine pure_ (i := 8) (N := some 78) (v := ?_) (a' := ?_) #[true, true, true, true, true, true, true, true, true, false, true, true, true, true, true, false, false, false] rfl rfl (zak HT_.out (by kernel_rfl)) (fun _ _ _ h => h) (Or.inl ⟨by rfl, ?_⟩) ?_ ?_
            rotate_left
            · intro w'
              go_simp
              with_reducible rfl
            rotate_left
            · simp only [Act.put, List.setIfInBounds_toArray, List.set_cons_zero, List.set_cons_succ, i64_w, i32_w]
              rfl
            refine pure_ (i := 9) (N := some 79) (v := ?_) (a' := ?_) #[true, true, true, true, true, true, true, true, true, true, true, true, true, true, true, false, false, false] rfl rfl (zak HT_.out (by kernel_rfl)) (fun _ _ _ h => h) (Or.inl ⟨by rfl, ?_⟩) ?_ ?_
            rotate_left
            · intro w'
              go_simp
              with_reducible rfl
            rotate_left
            · simp only [Act.put, List.setIfInBounds_toArray, List.set_cons_zero, List.set_cons_succ, i64_w, i32_w]
              rfl
            refine one_ (i := 15) (N := some 85) #[true, true, true, true, true, true, true, true, true, true, true, true, true, true, true, true, false, false] rfl rfl (one_of HT_.out (by kernel_rfl)) (by decide) (fun K hK => ?_)
            refine goes_ Tryd.func22 (by kernel_rfl) rfl #[.int .i64 x2] (by rfl) rfl rfl (by (try simp only [List.map_toArray, List.map_cons, List.map_nil]); first | done | rfl) ?_
            with_reducible refine (strconv_Itoa.calls x2 q2 _ (zba HT.out HB2.out) H2.out).mono ?_
            rintro e w2 ⟨rfl, hb⟩
            refine ⟨_, rfl, ?_⟩
            have HB3 := Lib.hid (HB2.out.trans (hb.mono HB2.out.size))
            clear hb
            refine hK.out _ _ ⟨cell_old HB3.out a1, cell_old HB3.out a2⟩ (fun hHeld => ?_)
            clear hK K
            refine norm_ (a' := ?_) ?_ ?_
            rotate_left
            · show Act.put _ (some 85) _ = _
              simp only [Act.put, List.setIfInBounds_toArray, List.set_cons_zero, List.set_cons_succ, i64_w, i32_w]
              rfl
            refine pure_ (i := 16) (N := some 86) (v := ?_) (a' := ?_) #[true, true, true, true, true, true, true, true, true, true, true, true, true, true, true, true, true, false] rfl rfl (zak HT_.out (by kernel_rfl)) (fun _ _ _ h => h) (Or.inl ⟨by rfl, ?_⟩) ?_ ?_
            rotate_left
            · intro w'
              go_simp
              with_reducible rfl
            rotate_left
            · simp only [Act.put, List.setIfInBounds_toArray, List.set_cons_zero, List.set_cons_succ, i64_w, i32_w]
              rfl
            refine pure_ (i := 17) (N := some 5) (v := ?_) (a' := ?_) #[true, true, true, true, true, true, true, true, true, true, true, true, true, true, true, true, true, true] rfl rfl (zak HT_.out (by kernel_rfl)) (fun _ _ _ h => h) (Or.inl ⟨by rfl, ?_⟩) ?_ ?_
            rotate_left
            · intro w'
              go_simp
              with_reducible rfl
            rotate_left
            · simp only [Act.put, List.setIfInBounds_toArray, List.set_cons_zero, List.set_cons_succ, i64_w, i32_w]
              rfl
            refine done_ (done_of HT_.out (by kernel_rfl)) ?_
            obtain ⟨w9, rfl⟩ : ∃ w9 : World, w9 = w2 := ⟨w2, rfl⟩
            clear HB2
            have HB2 : Hid (Below w.heap.size w w9) := HB3
            go_upto_region 21 with (fail)
            (try rw [e1])
          rotate_left
          focus
            have e1 : bs (textG l k) ++ stepL (givnS ⟨s0, s1, s2, s3, s4, s5, s6, s7⟩) ++ ⟨#[10]⟩ = bs (textG l (k + 1)) := by
              rw [HTn.out, show (⟨#[10]⟩ : ByteArray) = bs [10] from rfl, ← bs_toL (stepL (givnS ⟨s0, s1, s2, s3, s4, s5, s6, s7⟩)), zbb, zbb]
              simp [lineT, givnC, bs_toL]
            have hsz : (stepL (givnS ⟨s0, s1, s2, s3, s4, s5, s6, s7⟩)).size ≤ 419430400 := by
              have h2 := hll
              rw [show lineT (givnC ⟨2, x1, x2, ⟨s0, s1, s2, s3, s4, s5, s6, s7⟩, x4⟩) = (stepL (givnS ⟨s0, s1, s2, s3, s4, s5, s6, s7⟩)).data.toList from rfl, ← Lib.size_eq] at h2
              exact h2
            obtain ⟨ks, hks⟩ := Ev.rounds (rstep_ev ⟨s0, s1, s2, s3, s4, s5, s6, s7⟩ HIx.out.2.2.2 (by have := HWx.out; simp only [wC] at this; omega) hs0 hs1)
            have HKs := Lib.hid hks
            clear hks
            generalize stepL (givnS ⟨s0, s1, s2, s3, s4, s5, s6, s7⟩) = st at *
            go_wp2_with fail
            refine (cofferref22_step.calls ks s0 s1 s2 s3 A7 c7 s4 s5 s6 A10 c10 s7 st wr (Kd.C_below HR7.out HB.out) HL7.out (Kd.C_below HR10.out HB.out) HL10.out (zba HT.out HB.out) HKs.out).mono ?_
            rintro e w2 ⟨rfl, hb2⟩
            have HB2 := Lib.hid (HB.out.trans (hb2.mono HB.out.size))
            clear hb2 HB HKs
            go_upto_region 21 with (fail)
            (try rw [e1])
          rotate_left
          focus
            have e1 : bs (textG l k) ++ ⟨#[118, 97, 108, 117, 101, 32]⟩ ++ bs (zau x4.data.toList) ++ ⟨#[10]⟩ = bs (textG l (k + 1)) := by
              rw [HTn.out, show (⟨#[118, 97, 108, 117, 101, 32]⟩ : ByteArray) = bs [118, 97, 108, 117, 101, 32] from rfl, show (⟨#[10]⟩ : ByteArray) = bs [10] from rfl, zbb, zbb, zbb]
              simp [lineT, givnC]
            have hsz : (bs (zau x4.data.toList)).size ≤ 419430400 := by
              have h2 := hll
              rw [show lineT (givnC ⟨3, x1, x2, ⟨s0, s1, s2, s3, s4, s5, s6, s7⟩, x4⟩) = [118, 97, 108, 117, 101, 32] ++ zau x4.data.toList from rfl, List.length_append] at h2
              rw [zao]
              omega
            obtain ⟨ks, hks⟩ := Ev.rounds (rq x4 (by have := HWx.out; simp only [wC] at this; omega))
            have HKs := Lib.hid hks
            clear hks
            generalize bs (zau x4.data.toList) = st at *
            go_wp2_with fail
            refine (cofferref22_Quote.calls ks x4 st wr HKs.out).mono ?_
            rintro e w2 ⟨rfl, hb2⟩
            have HB2 := Lib.hid (HB.out.trans (hb2.mono HB.out.size))
            clear hb2 HB HKs
            go_upto_region 21 with (fail)
            (try rw [e1])
          rotate_left
          focus
            have e1 : bs (textG l k) ++ ⟨#[100, 105, 103, 101, 115, 116]⟩ ++ ⟨#[10]⟩ = bs (textG l (k + 1)) := by
              rw [HTn.out, show (⟨#[100, 105, 103, 101, 115, 116]⟩ : ByteArray) = bs [100, 105, 103, 101, 115, 116] from rfl, show (⟨#[10]⟩ : ByteArray) = bs [10] from rfl, zbb, zbb]
              simp [lineT, givnC]
            obtain ⟨w2, rfl⟩ : ∃ w2 : World, w2 = wr := ⟨wr, rfl⟩
            have HB2 := HB
            clear HB
            go_upto_region 21 with (fail)
            (try rw [e1])
          rotate_left
          focus
            have e1 : bs (textG l k) ++ ⟨#[117, 112]⟩ ++ ⟨#[10]⟩ = bs (textG l (k + 1)) := by
              rw [HTn.out, show (⟨#[117, 112]⟩ : ByteArray) = bs [117, 112] from rfl, show (⟨#[10]⟩ : ByteArray) = bs [10] from rfl, zbb, zbb]
              simp [lineT, givnC]
            obtain ⟨w2, rfl⟩ : ∃ w2 : World, w2 = wr := ⟨wr, rfl⟩
            have HB2 := HB
            clear HB
            go_upto_region 21 with (fail)
            (try rw [e1])
          rotate_left
          all_goals
            clear e1
            by_cases h6 : 65536 < (textG l (k + 1)).length
            · have h7 : decide (65536 < (textG l (k + 1)).length) = true := decide_eq_true h6
              have h8 : (65536 : Int) < ((textG l (k + 1)).length : Int) := by omega
              have HLo := Lib.hid (longV_of (Nat.lt_of_lt_of_le h6 HZ1.out))
              go_wp2
              go_ret2
              exact rp_long HK2.out HLo.out HB2.out
            · have h7 : decide (65536 < (textG l (k + 1)).length) = false := decide_eq_false h6
              have h8 : ¬ (65536 : Int) < ((textG l (k + 1)).length : Int) := by omega
              have HZ2 := Lib.hid (Nat.le_of_not_lt h6)
              go_wp2
              go_roundw
              case rel => exact ⟨k + 1, by omega, by go_num, rfl, HZ2, HB2⟩
              case measure => simp [intOf]; omega
        · obtain rfl : k = l.length := by omega
          obtain ⟨ls, hls⟩ := rlines_ev (textT (l.map givnC))
          obtain ⟨kl, hkl⟩ := Ev.rounds hls
          have HKl := Lib.hid hkl
          have HRt := Lib.hid (fun (h : ¬ longV (textT (l.map givnC)) = true) (wr : World) (hb : Below w.heap.size w wr) => rp_text HK2.out h hb)
          have HRl := Lib.hid (fun (h : longV (textT (l.map givnC)) = true) (wr : World) (hb : Below w.heap.size w wr) => rp_long HK2.out h hb)
          clear hls hkl
          rw [textG_all]
          generalize textT (l.map givnC) = T at *
          go_wp2_with fail
          refine (cofferref22_lines.calls kl (bs T) ls (!longV T) wr HKl.out).mono ?_
          rintro e w2 ⟨v2, rfl, _, hb2⟩
          have HB2 := Lib.hid (HB.out.trans (hb2.mono HB.out.size))
          clear hb2 HB
          by_cases hlo : longV T = true
          · have HE := Lib.hid (HRl.out hlo w2 HB2.out)
            rw [hlo]
            go_wp2
            go_ret2
            exact HE.out
          · have HE := Lib.hid (HRt.out hlo w2 HB2.out)
            rw [show longV T = false by simpa using hlo]
            go_wp2
            go_ret2
            exact HE.out
end Go.Proofs.YtdmlgligljagoaaDoor

set_option linter.unusedVariables false
set_option linter.unusedSimpArgs false
namespace Go.Proofs.YtdmlgligljagoaaDoor
open Go.RowKit Go.Proofs.YtdmlgligljagoaaDoorW.PrintWords PS
attribute [local go_sem] zao zbb zbo
set_option maxRecDepth 100000 in
set_option maxHeartbeats 8000000 in
theorem scriptPrints_any (l : List S57) (A : Option Addr) (c : Nat) (L : List UInt8) (w : World) (hC : Kd.C k57 w A l.length l) (hc : l.length ≤ c) (hw : (l.map wC).sum ≤ 1048576) (hI : ∀ x ∈ l, CmIn x) (hL : L.length ≤ 4294967296) (hT : Tab w) :
    Calls Tryd.prog 3 #[.slice A l.length c, .string (bs L)] w fun e w' => e = .returned (.bool true) ∧ Below w.heap.size w w' := by
  have hll := wC_len l
  have hlen : l.length ≤ 1048576 := by omega
  have hx : ∀ x ∈ l, x.f3.f4.length ≤ 1048576 ∧ x.f3.f7.length ≤ 1048576 := fun x hx => by
    have := wC_mem hx
    have := meta_len (c := x)
    omega
  have HX := Lib.hid hx
  have HF := Lib.hid (first_w w hT)
  have HT := Lib.hid hT
  have HC := Lib.hid hC
  have HW := Lib.hid hw
  have HI := Lib.hid hI
  obtain ⟨kq, hkq⟩ := quote_is L (by omega)
  have HQ := Lib.hid hkq
  obtain ⟨kr, hkr⟩ := Ev.rounds (rquote_ev L (by omega))
  have HQr := Lib.hid hkr
  clear hC hw hI hT hx hll hkq hkr
  go_enter Tryd.func3, Tryd.ntmps3
  go_wp2_with fail
  refine (given_m l A c w HC.out hc hlen HX.out).mono ?_
  rintro e w1 ⟨A1, c1, rfl, hG, hb1⟩
  obtain ⟨g, rfl, hlc⟩ := hG.form
  have HG := Lib.hid hG
  have HB1 := Lib.hid hb1
  have HPr := Lib.hid (fun W (hb : Below w1.heap.size w1 W) => by
    have h := print_any (l.map givnC) (some ⟨g, 0, none⟩) c1 W (Kd.S_reads' (HG.out.below hb).plain).2.2 (by rw [List.length_map]; omega) (zba HT.out (HB1.out.trans (hb.mono HB1.out.size))) (given_print l HI.out HW.out)
    rw [List.length_map] at h
    exact h)
  clear hG hb1
  go_wp2_with fail
  refine (HPr.out _ (Below.refl _ _)).mono ?_
  rintro e w2 ⟨rfl, hb2⟩
  have HB2 := Lib.hid hb2
  clear hb2
  go_wp2_with fail
  refine (HPr.out _ HB2.out).mono ?_
  rintro e w3 ⟨rfl, hb3⟩
  have HB3 := Lib.hid (HB2.out.trans (hb3.mono HB2.out.size))
  have HB03 := Lib.hid (HB1.out.trans (HB3.out.mono HB1.out.size))
  clear hb3 HB2 HPr
  go_wp2_with fail
  refine (rprint_any l A c w3 (Kd.C_below HC.out HB03.out) hc (zba HT.out HB03.out) HI.out (Nat.le_trans HW.out (by decide))).mono ?_
  rintro e w4 ⟨rfl, hb4⟩
  have HB4 := Lib.hid (HB3.out.trans (hb4.mono HB3.out.size))
  have HB04 := Lib.hid (HB1.out.trans (HB4.out.mono HB1.out.size))
  clear hb4 HB3 HB03
  generalize printV (l.map givnC) = p
  obtain ⟨p1, p2⟩ := p
  dsimp only
  have b1 : (p1 != p1) = false := by simp
  have b2 : (p2 != p2) = false := by simp
  go_wp2_with fail
  refine (kept_m l (some ⟨g, 0, none⟩) c1 A c w4 (HG.out.below HB4.out) (Kd.C_below HC.out HB04.out) hc hlen HX.out).mono ?_
  rintro e w5 ⟨rfl, hb5⟩
  have HB5 := Lib.hid (HB4.out.trans (hb5.mono HB4.out.size))
  clear hb5 HB4 HB04 b1 b2
  go_wp2_with fail
  refine (script_Quote.calls kq (bs L) (bs (zau L)) _ HQ.out).mono ?_
  rintro e w6 ⟨rfl, hb6⟩
  have HB6 := Lib.hid (HB5.out.trans (hb6.mono HB5.out.size))
  clear hb6 HB5 HQ
  have b1 : (bs (zau L)).toList = zau L := zbo _
  have HQr2 := Lib.hid (fun W => cofferref22_Quote.calls kr (bs L) (bs (zau L)) W HQr.out)
  generalize zau L = q at *
  have b2 : (q != q) = false := by simp
  clear b1
  go_wp2_with fail
  refine (HQr2.out _).mono ?_
  rintro e w7 ⟨rfl, hb7⟩
  have HB7 := Lib.hid (HB6.out.trans (hb7.mono HB6.out.size))
  have HB07 := Lib.hid (HB1.out.trans (HB7.out.mono HB1.out.size))
  have HA : Hid (Ap w w w7 0 0 (.slice (some ⟨g, 0, none⟩) l.length c1) (Lst (l.map givnC) 0)) := Lib.hid ⟨by rw [lst_0]; exact Kd.S_mono (HG.out.below HB7.out).plain (fun k _ => .inr (Nat.zero_le _)), fun k _ h => absurd h (Nat.not_lt_zero k), HB07.out, Nat.zero_le _⟩
  clear hb7 HB6 HQr HQr2 HB1 HG HB7 HB07
  have hml : (l.map givnC).length = l.length := List.length_map _
  have HMl := Lib.hid hml
  have HOP := Lib.hid (ovQ_print l HI.out HW.out)
  have HOT := Lib.hid (ovQ_told l)
  have HOG := Lib.hid (ovQ_givn l)
  have HOI := Lib.hid (ovQ_in l HI.out HW.out)
  have HOW := Lib.hid (Nat.le_trans (ovQ_w l) (Nat.mul_le_mul_left 4 HW.out))
  have HOL := Lib.hid (show (ovQ l).length = l.length by simp [ovQ])
  have HMx : Hid (∀ y ∈ l.map givnC, y.f3.f4.length ≤ 1048576 ∧ y.f3.f7.length ≤ 1048576) := Lib.hid (fun y hy => by
    obtain ⟨x, hx, rfl⟩ := List.mem_map.1 hy
    exact HX.out x hx)
  generalize l.map givnC = M at *
  clear hml
  go_wp2
  go_loopg [12] l.length (fun gk u12 wx => ∃ i : Nat, i + gk = l.length ∧ u12 = .int .i64 (i : Int) ∧ Hid (Ap w w wx 0 0 (.slice (some ⟨g, 0, none⟩) l.length c1) (Lst M i)))
  case atStart => exact ⟨0, by omega, rfl, HA⟩
  case round =>
    obtain ⟨i, hig, rfl, HA⟩ := hrel
    cases gk with
    | zero =>
      obtain rfl : i = l.length := by omega
      have hs := HA.out.s
      rw [← HMl.out, lst_all] at hs
      have hol : (M.map ovC).length = l.length := by rw [List.length_map]; exact HMl.out
      have HS := Lib.hid (Kd.S_reads' hs)
      have HB := Lib.hid HA.out.below
      have hPr := print_any (M.map ovC) (some ⟨g, 0, none⟩) c1 wr HS.out.2.2 (by rw [hol]; omega) (zba HT.out HB.out) HOP.out
      have hSh : Short (M.map ovC) := ⟨by rw [hol]; omega, fun y hy => by
        obtain ⟨x, hx, rfl⟩ := List.mem_map.1 hy
        have hb := HMx.out x hx
        refine ⟨?_, ?_⟩
        · show (st4 x.f3.f4.length x.f3.f4).length ≤ _
          rw [st4_len _ _ (Nat.le_refl _)]; omega
        · show (st7 x.f3.f7.length x.f3.f7).length ≤ _
          rw [st7_len _ _ (Nat.le_refl _)]; omega⟩
      have hTo : ∀ W, Below wr.heap.size wr W → _ := fun W hb => told_w (M.map ovC) (ovQ l) HOT.out (some ⟨g, 0, none⟩) c1 W (Kd.C_below HS.out.2.2 hb) (by rw [hol]; omega) hSh
      rw [hol] at hPr hTo
      have HPr := Lib.hid hPr
      have HTo := Lib.hid hTo
      clear hs hol hPr hTo hSh HA
      go_wp2_with fail
      refine HPr.out.mono ?_
      rintro e w8 ⟨rfl, hb8⟩
      have HB8 := Lib.hid hb8
      clear hb8 HPr
      go_wp2_with fail
      refine (HTo.out _ HB8.out).mono ?_
      rintro e w9 ⟨A9, c9, rfl, hl9, hC9, hb9⟩
      have HB9 := Lib.hid (HB.out.trans ((HB8.out.trans (hb9.mono HB8.out.size)).mono HB.out.size))
      have HRp := Lib.hid (rprint_any (ovQ l) A9 c9 w9 hC9 hl9 (zba HT.out HB9.out) HOI.out HOW.out)
      clear hl9 hC9 hb9 HTo HB8
      go_wp2_with fail
      refine HRp.out.mono ?_
      rintro e w10 ⟨rfl, hb10⟩
      have HB10 := Lib.hid (HB9.out.trans (hb10.mono HB9.out.size))
      rw [HOG.out]
      clear hb10 HRp HB9
      generalize printV (M.map ovC) = q at *
      obtain ⟨q1, q2⟩ := q
      dsimp only
      have b1 : (q1 == q1) = true := by simp
      have b2 : (q2 == q2) = true := by simp
      have HF2 := Lib.hid (first_w w10 (zba HT.out HB10.out))
      go_wp2_with fail
      refine HF2.out.mono ?_
      rintro e w11 ⟨rfl, hb11⟩
      have HB11 := Lib.hid (HB10.out.trans (hb11.mono HB10.out.size))
      clear hb11 HF2
      go_wp2
      go_ret
      exact ⟨rfl, HB11.out⟩
    | succ go =>
      have hi : i < l.length := by omega
      have hiM : i < M.length := by have := HMl.out; omega
      obtain ⟨wo, rfl⟩ : ∃ wo : World, wo = wr := ⟨_, rfl⟩
      obtain ⟨hm4, hm7⟩ := HMx.out _ (List.getElem_mem hiM)
      obtain ⟨v7, v10, oki, e9, e7, e10, hH, hM, hfin⟩ := HA.out.lendN i hi
      have hat := lst_at M i hiM
      have HSN := Lib.hid (stepN M i hiM)
      have HS7 := Lib.hid (fun k h => step7 M i k hiM h)
      have HS4 := Lib.hid (fun k a h => step4 M i k a hiM h)
      have HNx := Lib.hid (lst_next M i hiM)
      have HSl := Lib.hid (fun y => set_at (Lst M i) i y (by rw [lst_len M i (Nat.le_of_lt hiM)]; exact hiM))
      rw [hat] at e9
      generalize hx : M[i] = x at *
      clear hx
      have HH := Lib.hid hH
      have HM := Lib.hid hM
      have HFin := Lib.hid hfin
      have b1 : (i : Int) < (l.length : Int) := by omega
      have HAt := Lib.hid hat
      clear hH hM hfin hat
      go_wp2_with (refine Kd.H_store k36 (w0 := w) w.heap.size rfl rfl 3 (.tmp 80) (.tmp 77) rfl 36 (i : Int) 9 (Lst M i) (putN (gd (Lst M i) i) (ovN x.f3.f6)) (.int .i64 (ovN x.f3.f6)) [.int .i64 (ovN x.f3.f6)] (c12 (gd (Lst M i) i) v7 v10) (okA 0 0) oki oki rfl ?s2 rfl rfl ?s5 ?s6 HH.out (Int.natCast_nonneg i) ?s8 ?s9 (HM.out _) (fun _ h_ => h_) HA.out.below ?_; (case s2 => show _ = (i : Int).toNat * 12 + 9; rw [Int.toNat_natCast]); (case s5 => kernel_rfl); (case s6 => simp [Value.oneCell']); (case s8 => omega); (case s9 => show 9 + 1 ≤ 12; omega); intro w9 hS hB hg; rw [Int.toNat_natCast] at hS; have hA2 := HFin.out w9 _ hS hB hg; have hsn := HSN.out; rw [HAt.out] at hsn hA2; rw [hsn] at hA2; have HA2 := Lib.hid hA2; clear hS hB hg hA2 hsn HA HH HM HFin e7 e9 e10)
      go_loopg [13] x.f3.f7.length (fun gk u13 wx => ∃ k : Nat, k + gk = x.f3.f7.length ∧ u13 = .int .i64 (k : Int) ∧ Hid (Ap w w wx 0 0 (.slice (some ⟨g, 0, none⟩) l.length c1) ((Lst M i).set i (part k 0 x))))
      case atStart => exact ⟨0, by omega, rfl, HA2⟩
      case round =>
        clear HA2
        obtain ⟨k, hkg, rfl, HA2⟩ := hrel
        obtain ⟨v7, v10, oki, e7, e10, r7, r10, f4, f7⟩ := HA2.out.lend i hi
        rw [show ((Lst M i).set i (part k 0 x)).getD i z36 = part k 0 x from HSl.out _] at r10
        have hr10 : (Kd.int .i64).R 3 wr w.heap.size oki v10 (st7 k x.f3.f7) := r10
        have hl7 := st7_len k x.f3.f7 (by omega)
        have HL7 := Lib.hid hl7
        have HR10 := Lib.hid hr10
        have HF7 := Lib.hid f7
        clear r7 r10 f4 f7 hr10 hl7
        cases gk with
        | zero =>
          obtain rfl : k = x.f3.f7.length := by omega
          obtain ⟨A10, c10, rfl⟩ := Kd.R_slice HR10.out
          rw [HL7.out] at e10
          go_wp2
          clear e7 e10 HL7 HR10 HF7
          go_loopg [14] x.f3.f4.length (fun gk u14 wx => ∃ k : Nat, k + gk = x.f3.f4.length ∧ u14 = .int .i64 (k : Int) ∧ Hid (Ap w w wx 0 0 (.slice (some ⟨g, 0, none⟩) l.length c1) ((Lst M i).set i (part x.f3.f7.length k x))))
          case atStart => exact ⟨0, by omega, rfl, HA2⟩
          case round =>
            clear HA2
            obtain ⟨k, hkg, rfl, HA2⟩ := hrel
            obtain ⟨v7, v10, oki, e7, e10, r7, r10, f4, f7⟩ := HA2.out.lend i hi
            rw [show ((Lst M i).set i (part x.f3.f7.length k x)).getD i z36 = part x.f3.f7.length k x from HSl.out _] at r7
            have hr7 : k38.R 38 wr w.heap.size oki v7 (st4 k x.f3.f4) := r7
            have hl4 := st4_len k x.f3.f4 (by omega)
            have HL4 := Lib.hid hl4
            have HR7 := Lib.hid hr7
            have HF4 := Lib.hid f4
            clear r7 r10 f4 f7 hr7 hl4
            cases gk with
            | zero =>
              obtain rfl : k = x.f3.f4.length := by omega
              obtain ⟨A7, c7, rfl⟩ := Kd.R_slice HR7.out
              rw [HL4.out] at e7
              go_wp2
              have hn := HA2.out
              rw [show part x.f3.f7.length x.f3.f4.length x = ovC x from rfl, HNx.out] at hn
              have HAn := Lib.hid hn
              clear hn
              go_roundg go
              case measure => omega
              case rel => exact ⟨i + 1, by omega, by go_num, HAn⟩
            | succ gi =>
              have hk : k < x.f3.f4.length := by omega
              obtain ⟨b, c7, rfl, _⟩ := Kd.R_form HR7.out (by rw [HL4.out]; omega)
              obtain ⟨hcl, hfz, hR9, hg9⟩ := over_store HR7.out k (by rw [HL4.out]; exact hk)
              rw [HL4.out] at e7
              rw [st4_get k x.f3.f4 hk] at hR9
              have b2 : (k : Int) < (x.f3.f4.length : Int) := by omega
              have hn := HF4.out _ _ hg9 (HA2.out.below.setCell (Kd.R_base HR7.out b rfl) _) hR9
              rw [HS4.out k x.f3.f7.length hk] at hn
              have HN := Lib.hid hn
              clear hR9 hg9 hn
              go_wp2
              go_roundg gi
              case measure => omega
              case rel => exact ⟨k + 1, by omega, by go_num, HN⟩
        | succ gi =>
          have hk : k < x.f3.f7.length := by omega
          obtain ⟨b, c10, rfl, _⟩ := Kd.R_form HR10.out (by rw [HL7.out]; omega)
          obtain ⟨cc, hcl, _, hcc, hfz⟩ := Kd.R_elem HR10.out 0 (k : Int) (by omega) (by rw [HL7.out]; omega)
          rw [HL7.out] at e10
          have b2 : (k : Int) < (x.f3.f7.length : Int) := by omega
          have HS7k := Lib.hid (HS7.out k hk)
          go_wp2_with (refine Kd.R_store (Kd.int .i64) (w0 := w) w.heap.size rfl rfl 3 (.tmp 100) (.tmp 99) rfl 3 (k : Int) 0 (st7 k x.f3.f7) (k : Int) (.int .i64 k) [.int .i64 k] cc oki (fun _ => False) rfl ?s2 rfl rfl ?s5 ?s6 HR10.out (Int.natCast_nonneg k) ?s8 hcl hcc ?s9 ?s10 (fun _ hk => hk.elim) HA2.out.below ?_; (case s2 => show _ = (k : Int).toNat * 1 + 0; rw [Int.toNat_natCast]; omega); (case s5 => kernel_rfl); (case s6 => simp [Value.oneCell']); (case s8 => rw [HL7.out]; omega); (case s9 => show 0 + 1 ≤ 1; omega); (case s10 => (have hcl2 := hcl; match cc, hcl2 with | [_], _ => exact rfl)); intro w9 hR9 hB9 hg9; have hn := HF7.out w9 _ hg9 hB9 hR9; rw [Int.toNat_natCast, HS7k.out] at hn; have HN := Lib.hid hn; clear hR9 hB9 hg9 hn)
          go_roundg gi
          case measure => omega
          case rel => exact ⟨k + 1, by omega, by go_num, HN⟩
theorem scriptPrints_law (l : List S57) (A : Option Addr) (c : Nat) (s : ByteArray) (w : World) (hC : Kd.C k57 w A l.length l) (hc : l.length ≤ c) (hw : (l.map wC).sum ≤ 1048576) (hI : ∀ x ∈ l, CmIn x) (hs : s.size ≤ 1048576) (hT : Tab w) :
    Calls Tryd.prog 3 #[.slice A l.length c, .string s] w fun e w' => e = .returned (.bool true) ∧ Below w.heap.size w w' := by
  have h := scriptPrints_any l A c s.data.toList w hC hc hw hI (by rw [← Lib.size_eq]; omega) hT
  rw [bs_self] at h
  exact h
end Go.Proofs.YtdmlgligljagoaaDoor

namespace Go.Proofs.YtdmlgligljagoaaDoor.lawScriptPrints
open Go.ChangeShapes Go.WideShapes Go.ChangeAt Go.RowKit
open Go.ChangeMaps (open_string shut_string)
set_option linter.unusedVariables false
set_option linter.unusedSimpArgs false
noncomputable def leafs : DataW Unit → List Value
  | .lit (.int k n) => [Value.int k n]
  | .agg l => l.map fun d => match d with
    | .lit (.int k n) => Value.int k n
    | _ => undef
  | _ => [undef]
noncomputable def toCells : DataW Unit → Array Value
  | .agg l => (l.flatMap leafs).toArray
  | _ => #[]
noncomputable def setTab (h : Array Obj) (x : String × DataW Unit) : Array Obj := h.modify ((Tryd.prog.globalNamed x.1).getD 0) fun o => match o with
  | .cells _ t frozen => .cells (toCells x.2) t frozen
  | o => o
noncomputable def laidWorld (os : Os) : World :=
  { World.holding Tryd.prog os ⟨#[], #[], []⟩ with heap := List.foldl setTab (World.holding Tryd.prog os ⟨#[], #[], []⟩).heap Rows.scriptPrintsUptoRow.laid }
theorem gTab : Tryd.prog.globalNamed "internal/strconv.uint64pow10" = some 0 := by kernel_rfl
theorem table {W : World} (h : laidMetH Tryd.prog Rows.scriptPrintsUptoRow.laid W) (hS : W.ShapedOpen Tryd.prog) : Tab W := by
  refine ⟨?_, cell_of_shapedOpen_int (zero := #[.int .i64 0]) (t := 3) hS (of_decide_eq_true (by kernel_rfl)) (by kernel_rfl) rfl (by kernel_rfl) (by kernel_rfl) Tryd.underlying3⟩
  obtain ⟨ps, h0, _⟩ := h
  obtain ⟨_, _, _, _, _, _, _, _, _, _, h1, _⟩ := h0
  obtain ⟨_, _, _, _, _, _, _, _, _, _, h2, _⟩ := h1
  exact tab_of_vars gTab (t := 123) (n := 20) (e := 110) (by kernel_rfl) Tryd.underlying123 Tryd.underlying110 (by kernel_rfl) (by kernel_rfl) h2

set_option maxRecDepth 100000 in
theorem contract (H : Type) (enc : TypeId × Value → H) (W : World) (base : Nat) (args : Array Value) (ds gs : List (DataW H)) (before : List MemPlace)
    (hval : ∀ (j : Nat) t v, Tryd.f3.params[j]? = some t → args[j]? = some v → Value.okWide Tryd.prog W .any base t v)
    (hW : DataW.Whole enc Tryd.prog Tryd.f3.params.toList Rows.scriptPrintsSpec.vars false W args.toList ds gs before)
    (hz : (DataW.weightsEach Tryd.prog (Tryd.f3.params.toList ++ ([] : List TypeId)) (ds ++ gs)).all (· ≤ reachBytes) = true) (hk : Rows.uptoSmall H (ds ++ gs) = true) (hL : laidMetH Tryd.prog Rows.scriptPrintsUptoRow.laid W) (hS : W.ShapedOpen Tryd.prog) :
    Calls Tryd.prog 3 args W fun e W' => ∃ v, e = .returned v ∧ Rows.scriptPrintsSpec.post enc Tryd.prog Tryd.f3 false true false false W args v W' := by
  have hW' := hW
  obtain ⟨p, q, hA0, hV, rfl, hfz, hnd⟩ := hW
  have hA : DataW.TrodAll enc Tryd.prog W 0 (fun _ => true) true Tryd.f3.params.toList args.toList ds p := hA0
  rw [Tryd.params3] at hA hval hz
  obtain ⟨v0, vs0, d0, ds0, p0, q0, hargs, rfl, rfl, h0, r0⟩ := trodAll_cons hA
  obtain ⟨v1, vs1, d1, ds1, p1, q1, rfl, rfl, rfl, h1, r1⟩ := trodAll_cons r0
  obtain ⟨rfl, rfl, rfl⟩ := trodAll_nil r1
  obtain rfl : args = #[v0, v1] := by cases args; simp_all
  obtain ⟨rfl, rfl⟩ := trodVars_none hV
  obtain ⟨A0, c0, l0, rfl, hl0, hC0, hB0, hI0⟩ := open_cmds (hval 0 22 v0 rfl rfl) h0
  obtain ⟨a1, rfl, rfl, rfl, w1⟩ := open_string Tryd.underlying9 (hval 1 9 v1 rfl rfl) h1
  clear hA0
  have hk2 : Rows.uptoBulkAll [d0, .lit (.string a1.data.toList)] ≤ 1048576 := of_decide_eq_true hk
  simp only [Rows.uptoBulkAll, Rows.uptoBulk] at hk2
  have z0 : (l0.map wC).sum ≤ 1048576 := by omega
  have z1 : a1.size ≤ 1048576 := by have e := Lib.size_eq a1; omega
  have hc : Calls Tryd.prog 3 #[.slice A0 l0.length c0, .string a1] W fun e W' => e = .returned (.bool true) ∧ Below W.heap.size W W' := scriptPrints_law l0 A0 c0 a1 W hC0 hl0 z0 hI0 z1 (table hL hS)
  exact hc.mono fun e W' ⟨he, hb⟩ => ⟨_, he, law_post rfl (by rw [Tryd.params3]; decide +kernel) (tb := 4) (by kernel_rfl) Tryd.underlying4 ⟨rfl, rfl, rfl⟩ hW' hb⟩

set_option maxRecDepth 100000 in
theorem laid_met (os : Os) : laidMet Tryd.prog Rows.scriptPrintsUptoRow.laid ((laidWorld os).forCall (fun _ _ => 0) ⟨#[], #[.slice none 0 0, .string ByteArray.empty], []⟩).memory :=
  laidMet_of_run' 8 (by kernel_rfl) (by kernel_rfl)
set_option maxRecDepth 100000 in
theorem reads (os : Os) {H : Type} (enc : TypeId × Value → H) : ∃ places, DataW.whole enc Tryd.prog ((laidWorld os).forCall (fun _ _ => 0) ⟨#[], #[.slice none 0 0, .string ByteArray.empty], []⟩).memory Tryd.f3.params.toList Rows.scriptPrintsSpec.vars false (#[.slice none 0 0, .string ByteArray.empty] : Array Value).toList 8 = some ([.nil, .lit (.string [])], [], places) :=
  ⟨[], by kernel_rfl⟩
set_option maxRecDepth 100000 in
theorem lifted (os : Os) (started : os.Started) (H : Type) (enc : TypeId × Value → H) (F : Stop.Interp) :
    ReturnsInHanded {} Tryd.checked os 3 .any ((Rows.OpenSpec.upto Rows.scriptPrintsSpec).preRow enc Tryd.prog Tryd.f3 Rows.scriptPrintsUptoRow.domain false Rows.scriptPrintsUptoRow.laid) (((Rows.OpenSpec.upto Rows.scriptPrintsSpec).at F).post enc Tryd.prog Tryd.f3 false true false false) := by
  obtain ⟨places, hx⟩ := reads os enc
  refine returnsInHanded_of_row (C := Tryd.checked) (s := Rows.OpenSpec.upto Rows.scriptPrintsSpec) own started (by kernel_rfl) Tryd.func3
    (witness_row_at (enc := enc) (C := Tryd.checked) false (laidWorld os) #[.slice none 0 0, .string ByteArray.empty] rfl (by kernel_rfl) (by kernel_rfl) (by kernel_rfl)
      (OpenSpec.preRow_of_cond 8 hx (by kernel_rfl) (fun k hk => by cases hk; exact decide_eq_true (by simp [Rows.uptoBulkAll, Rows.uptoBulk])) (by kernel_rfl) (laid_met os))) ?_
  intro W base args ds gs before hval hW _ hk hz hL hS _
  exact contract H enc W base args ds gs before hval hW hz (hk _ rfl) hL hS
theorem said : Rows.ScriptPrintsUptoSaid :=
  OpenClaim.holds_of_cond 3 Tryd.f3 rfl rfl rfl rfl rfl rfl rfl ⟨rfl, rfl, rfl, rfl, rfl⟩ rfl rfl rfl rfl rfl (by kernel_rfl) Tryd.func3 (by kernel_rfl)
    (of_decide_eq_true (by kernel_rfl)) (by unfold Func.isWrapper; first | (rw [if_pos (by decide +kernel)]; kernel_rfl) | (rw [if_neg (by decide +kernel)]; exact ⟨rfl, rfl⟩))
    (fun os started H enc _ F => by rw [OpenClaim.pre_eq_preRow]; exact lifted os started H enc F)
theorem plain (f : FuncId) (fn : Func) (hf : Tryd.pinned.checked.prog.funcNamed "coffer/cofferlaw22.ScriptPrints" = some f) (hfn : Tryd.pinned.checked.prog.funcs[f]? = some fn) :
    false = Tryd.pinned.checked.prog.looks [] ∧ ∀ (j : Nat) t, fn.params[j]? = some t → Tryd.pinned.checked.prog.wantsStandIn t = false := by
  obtain rfl : f = 3 := Option.some.inj ((show Tryd.prog.funcNamed "coffer/cofferlaw22.ScriptPrints" = some 3 by kernel_rfl).symm.trans hf) |>.symm
  obtain rfl : fn = Tryd.f3 := (Option.some.inj (Tryd.func3.symm.trans hfn)).symm
  refine ⟨by kernel_rfl, fun j t ht => ?_⟩
  rw [Tryd.params3] at ht
  have hm := Array.mem_of_getElem? ht
  exact of_decide_eq_true ((show ([22, 9] : List TypeId).all (fun t => decide (Tryd.prog.wantsStandIn t = false)) = true by kernel_rfl) |> fun h => List.all_eq_true.1 h t (by simpa using hm))
/-- THE CARD -/
theorem proved : Rows.ScriptPrintsUptoCardSaid :=
  Claim7.holds_tied_plain_at .later [] _ _ _ _ said (fun _ h => by cases h) (by kernel_rfl) (fun _ h => by cases h) scriptPrintsUpto_row_tie rfl ⟨rfl, rfl⟩ (by kernel_rfl) rfl plain (by kernel_rfl)
end Go.Proofs.YtdmlgligljagoaaDoor.lawScriptPrints
