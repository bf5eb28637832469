/- The law ScriptApart of this seat: coffer/cofferlaw22.ScriptApart returns true for every input whose bulk is at most 1048576 (the narrowed form), and its arguments read as they did. The package-level tables are as the row lists them.
The machine side of some functions, printed for this claim: each function has the answers of a plain one.
Plain law: what the narrowed form's bound says of a printed text; the commands as they are given; what the law on going there and back needs.
Plain law: what is no number in its one form is refused.
Plain law: what the document gives: the first answers.
Walk: what the document gives, the first answers, by contracts.
Contracts of the seat's functions, as the laws' walks take them.
Walk: the law that lists told are the caller's own. -/
import Derived.Test.YtdmlgligljagoaaDoorCards
import Derived.Test.YtdmlgligljagoaaDoorTie
import Derived.Test.YtdmlgligljagoaaDoorQP5
namespace Go.Proofs.YtdmlgligljagoaaDoor.PS
open Go.RowKit Go.Proofs.YtdmlgligljagoaaDoorW.PrintWords Go.Proofs.YtdmlgligljagoaaDoorW.PrintLast Go.Proofs.YtdmlgligljagoaaDoorW.PrintMore
attribute [local go_sem] max2_int min2_int max_two min_two zbg zbh max_four min_four   -- for this text's walks alone
set_option linter.unusedVariables false
set_option linter.unusedSimpArgs false

/-! ### cofferlaw22_given: function 9 -/
def cofferlaw22_given.l0 : Nat → List (S57) → List (S36) → Int → Option ((List (S36)))
 | 0, _, _, _ => none
 | k + 1, x0, x3, x4 => if x4 < (x0.length : Int) then (if 0 ≤ x4 then (if ([] : List (S38)).length + ((zaf x0 x4).f3.f4).length < 4398046511104 then ((some (([] : List (S38)) ++ ((zaf x0 x4).f3.f4) : List (S38))).bind fun y336 => (if y336.length < 4398046511104 then ((some (y336 ++ [(⟨(⟨#[109, 97, 114, 107]⟩ : ByteArray), (⟨#[]⟩ : ByteArray)⟩ : S38)] : List (S38))).bind fun y339 => (if ([] : List Int).length + ((zaf x0 x4).f3.f7).length < 17592186044416 then ((some (([] : List Int) ++ ((zaf x0 x4).f3.f7) : List Int)).bind fun y342 => (if y342.length < 17592186044416 then ((some (y342 ++ [(-77)] : List Int)).bind fun y345 => (if 0 ≤ (((zaf x0 x4).f3.f4).length : Int) then (if (((zaf x0 x4).f3.f4).length : Int) ≤ (y339.length : Int) then (if 0 ≤ (((zaf x0 x4).f3.f7).length : Int) then (if (((zaf x0 x4).f3.f7).length : Int) ≤ (y345.length : Int) then (if x3.length < 879609302220 then (cofferlaw22_given.l0 k x0 (x3 ++ [(⟨(zaf x0 x4).f0, (zaf x0 x4).f1, (zaf x0 x4).f2, (⟨(zaf x0 x4).f3.f0, (zaf x0 x4).f3.f1, (zaf x0 x4).f3.f2, (zaf x0 x4).f3.f3, (y339.take ((((zaf x0 x4).f3.f4).length : Int) : Int).toNat), (zaf x0 x4).f3.f5, (zaf x0 x4).f3.f6, (y345.take ((((zaf x0 x4).f3.f7).length : Int) : Int).toNat)⟩ : S34), (zaf x0 x4).f4⟩ : S36)]) (wrap64 (x4 + 1))) else (none)) else (none)) else (none)) else (none)) else (none))) else (none))) else (none))) else (none))) else (none)) else (none)) else (if x3.length < 879609302220 then ((some (x3 ++ [(⟨(-77), 0, 0, (⟨0, (⟨#[]⟩ : ByteArray), (⟨#[]⟩ : ByteArray), (⟨#[]⟩ : ByteArray), ([] : List (S38)), 0, 0, ([] : List Int)⟩ : S34), (⟨#[]⟩ : ByteArray)⟩ : S36)] : List (S36))).bind fun y366 => (if 0 ≤ (x0.length : Int) then (if (x0.length : Int) ≤ (y366.length : Int) then (some (y366.take ((x0.length : Int) : Int).toNat)) else (none)) else (none))) else (none))
def cofferlaw22_given.f (k : Nat) (l0 : List (S57)) : Option ((List (S36))) := cofferlaw22_given.l0 k l0 ([] : List (S36)) 0
theorem cofferlaw22_given.mono_l : ∀ k, (∀ y0 y1 y2, LeO (cofferlaw22_given.l0 k y0 y1 y2) (cofferlaw22_given.l0 (k + 1) y0 y1 y2))
 | 0 => fun _ _ _ r h => by simp [cofferlaw22_given.l0] at h
 | k + 1 => by
  have ih0 := cofferlaw22_given.mono_l k
  ·
   intro y0 y1 y2
   unfold cofferlaw22_given.l0
   repeat' first
   | (with_reducible exact ih0 _ _ _)
   | (with_reducible exact LeO.refl _)
   | (with_reducible exact LeO.none _)
   | (with_reducible refine LeO.ite ?_ ?_)
   | (with_reducible refine LeO.bind ?_ (fun _ => ?_))
   | exact ih0 _ _ _
   | exact LeO.none _
   | refine LeO.ite ?_ ?_
   | refine LeO.bind ?_ (fun _ => ?_)
theorem cofferlaw22_given.mono : ∀ a0 k, LeO (cofferlaw22_given.f k a0) (cofferlaw22_given.f (k + 1) a0) := by
 intro a0 k
 have ih0 := cofferlaw22_given.mono_l k
 unfold cofferlaw22_given.f
 repeat' first
   | (with_reducible exact ih0 _ _ _)
   | (with_reducible exact LeO.refl _)
   | (with_reducible exact LeO.none _)
   | (with_reducible refine LeO.ite ?_ ?_)
   | (with_reducible refine LeO.bind ?_ (fun _ => ?_))
   | exact ih0 _ _ _
   | exact LeO.none _
   | refine LeO.ite ?_ ?_
   | refine LeO.bind ?_ (fun _ => ?_)
def cofferlaw22_given.T12 : Bool × List (List Nat × List Nat) := (true, [([], []), ([0], [0]), ([], []), ([2], [2]), ([], []), ([4], [4]), ([], []), ([6], [6]), ([], []), ([], []), ([9], [9]), ([10], [10]), ([8, 11], [8, 11]), ([], []), ([13], [13]), ([], []), ([15], [15]), ([], []), ([], []), ([18], [18]), ([19], [19]), ([17, 20], [17, 20]), ([1, 3, 5, 7, 12, 14, 16, 21], [1, 3, 5, 7, 12, 14, 16, 21]), ([], []), ([23, 22, 0, 1, 2, 3, 4, 5, 6, 7, 8, 9, 10, 11, 12, 13, 14, 15, 16, 17, 18, 19, 20, 21, 22, 23], [22, 23])])
def cofferlaw22_given.B12 : List Nat := [0, 1, 0, 4, 0, 16, 0, 64, 0, 0, 512, 1536, 3840, 0, 8192, 0, 32768, 0, 0, 262144, 786432, 1966080, 4194303, 0, 16777215]
theorem cofferlaw22_given.tab12 : rtab .any (opsOf Tryd.f9 12) = cofferlaw22_given.T12 := by kernel_rfl
theorem cofferlaw22_given.bits12 : waitsOk cofferlaw22_given.T12.2 cofferlaw22_given.B12 = true := by kernel_rfl
def cofferlaw22_given.T13 : Bool × List (List Nat × List Nat) := (true, [([], []), ([], []), ([], []), ([1, 2], [1, 2]), ([3], [3]), ([4], [4]), ([], []), ([], []), ([6, 7], [6, 7]), ([8], [8]), ([9], [9]), ([], []), ([], []), ([11, 12], [11, 12]), ([13], [13]), ([14], [14]), ([], []), ([], []), ([], []), ([17, 18], [17, 18]), ([19], [19]), ([20], [20]), ([5, 10, 15, 16, 21], [5, 10, 15, 16, 21]), ([22], [22]), ([0, 23], [0, 23]), ([24, 24, 0, 1, 2, 3, 4, 5, 6, 7, 8, 9, 10, 11, 12, 13, 14, 15, 16, 17, 18, 19, 20, 21, 22, 23, 24], [0, 24])])
def cofferlaw22_given.B13 : List Nat := [0, 0, 0, 6, 14, 30, 0, 0, 192, 448, 960, 0, 0, 6144, 14336, 30720, 0, 0, 0, 393216, 917504, 1966080, 4194302, 8388606, 16777215, 33554431]
theorem cofferlaw22_given.tab13 : rtab .any (opsOf Tryd.f9 13) = cofferlaw22_given.T13 := by kernel_rfl
theorem cofferlaw22_given.bits13 : waitsOk cofferlaw22_given.T13.2 cofferlaw22_given.B13 = true := by kernel_rfl
set_option maxHeartbeats 8000000 in
set_option maxRecDepth 100000 in
theorem cofferlaw22_given.calls (k : Nat) (A0 : Option Addr) (c0 : Nat) (l0 : List (S57)) (r : List (S36)) (w : World) (hr0 : Kd.C k57 w A0 l0.length l0) (hc0 : l0.length ≤ c0) (h : cofferlaw22_given.f k l0 = some r) :
  Calls Tryd.prog 9 #[.slice A0 l0.length c0] w fun e w' => ∃ v0_ : Value, e = .returned (v0_) ∧ Kd.N k36 36 w' w.heap.size (fun k_ => (w.heap.size ≤ k_)) v0_ r ∧ Below w.heap.size w w' := by
 have hu55 := Tryd.underlying55
 have hu38 := Tryd.underlying38
 have hu34 := Tryd.underlying34
 have hu36 := Tryd.underlying36
 have HR0 := Aside0.mk hr0
 have HC0 := Aside0.mk hc0
 clear hr0 hc0
 have HB := Aside0.mk (Below.refl w.heap.size w)
 have H : (cofferlaw22_given.l0 k l0 ([] : List (S36)) 0) = some r := h
 clear h
 have H' := Aside0.mk H
 clear H
 go_enter Tryd.func9, Tryd.ntmps9
 go_wp2
 go_loopg [3, 4] k (fun kq v3 v4 w' => ∃ (x3_1 : List (S36)) (x4_1 : Int), v4 = .int .i64 x4_1 ∧ Aside0 (cofferlaw22_given.l0 kq l0 x3_1 x4_1 = some r) ∧ Aside0 (kq ≤ k) ∧ Aside0 (Kd.N k36 36 w' w.heap.size (fun k_ => (w.heap.size ≤ k_)) v3 x3_1) ∧ Aside0 (Below w.heap.size w w'))
 case atStart => exact ⟨(([] : List (S36))), (0), (by first | rfl | (simp; done) | (simp [*]; done)), H', ⟨Nat.le_refl _⟩, ⟨by first | exact Kd.S_nil _ _ _ _ _ | exact Kd.N_nil _ _ _ _ _ | exact Kd.V_nil _ _ _ _ _ | exact Kd.Q_nil _ _ _ _ _ | exact Kd.R_nil _ _ _ _ _⟩, ⟨by repeat with_reducible first | exact HB.out | apply zae | apply zac | apply zad⟩⟩
 case round =>
  clear H'
  obtain ⟨x3_1, x4_1, rfl, HA, HK1, HO_3, HB⟩ := hrel
  cases gk with
  | zero => exact absurd HA.out (by simp [cofferlaw22_given.l0])
  | succ k1 =>
   have H := HA.out
   clear HA
   simp only [cofferlaw22_given.l0] at H
   by_cases c2 : x4_1 < (l0.length : Int)
   rotate_left
   ·
    rw [if_neg c2] at H
    have c2b0 : decide (x4_1 < (l0.length : Int)) = false := decide_eq_false c2
    clear c2
    by_cases c37 : x3_1.length < 879609302220
    rotate_left
    ·
     rw [if_neg c37] at H
     exact absurd H (by simp)
    rw [if_pos c37] at H
    have LMc37 := Aside0.mk c37
    clear c37
    obtain ⟨y366, hy366⟩ : ∃ y_ : List (S36), y_ = (x3_1 ++ [(⟨(-77), 0, 0, (⟨0, (⟨#[]⟩ : ByteArray), (⟨#[]⟩ : ByteArray), (⟨#[]⟩ : ByteArray), ([] : List (S38)), 0, 0, ([] : List Int)⟩ : S34), (⟨#[]⟩ : ByteArray)⟩ : S36)]) := ⟨_, rfl⟩
    replace H : (if 0 ≤ (l0.length : Int) then (if (l0.length : Int) ≤ (y366.length : Int) then (some (y366.take ((l0.length : Int) : Int).toNat)) else (none)) else (none)) = some r := by first | (rw [hy366]; with_reducible exact H) | (have H2_ := (Option.bind_some _ _).symm.trans H; rw [hy366]; with_reducible exact H2_) | (have H2_ := (Option.bind_some _ _).symm.trans H; with_reducible exact H2_) | with_reducible exact H | (rw [hy366]; exact H) | exact H
    have Ny366 := Aside0.mk hy366
    clear hy366
    by_cases c38 : 0 ≤ (l0.length : Int)
    rotate_left
    ·
     rw [if_neg c38] at H
     exact absurd H (by simp)
    rw [if_pos c38] at H
    have c38b0 := eq_true c38
    have c38b1 : decide (0 ≤ (l0.length : Int)) = true := decide_eq_true c38
    clear c38
    by_cases c39 : (l0.length : Int) ≤ (y366.length : Int)
    rotate_left
    ·
     rw [if_neg c39] at H
     exact absurd H (by simp)
    rw [if_pos c39] at H
    have c39b0 := eq_true c39
    have c39b1 : decide ((l0.length : Int) ≤ (y366.length : Int)) = true := decide_eq_true c39
    clear c39
    obtain ⟨y369, hy369⟩ : ∃ y_ : List (S36), y_ = (y366.take ((l0.length : Int) : Int).toNat) := ⟨_, rfl⟩
    replace H : (some y369) = some r := by first | (rw [hy369]; with_reducible exact H) | (have H2_ := (Option.bind_some _ _).symm.trans H; rw [hy369]; with_reducible exact H2_) | (have H2_ := (Option.bind_some _ _).symm.trans H; with_reducible exact H2_) | with_reducible exact H | (rw [hy369]; exact H) | exact H
    have Ny369 := Aside0.mk hy369
    clear hy369
    obtain rfl := Option.some.inj H
    go_wp2_with (first | ((with_reducible refine zax (b := .append) (xs := #[.tmp 83, .tmp 85]) rfl ?_); at_builtin; refine Kd.N_append k36 (w0 := w) w.heap.size rfl (.tmp 83) (.tmp 85) 23 36 (.agg #[(.int .i64 0), (.int .i64 0), (.int .i64 0), (.int .i64 0), (.string ⟨#[]⟩), (.string ⟨#[]⟩), (.string ⟨#[]⟩), (.slice none 0 0), (.int .i64 0), (.int .i64 0), (.slice none 0 0), (.string ⟨#[]⟩)]) 160 rfl Tryd.underlying23 info36 rfl (by decide) (by omega) u3 x3_1 (⟨(-77), 0, 0, (⟨0, (⟨#[]⟩ : ByteArray), (⟨#[]⟩ : ByteArray), (⟨#[]⟩ : ByteArray), ([] : List (S38)), 0, 0, ([] : List Int)⟩ : S34), (⟨#[]⟩ : ByteArray)⟩ : S36) [.int .i64 (-77), .int .i64 0, .int .i64 0, .int .i64 0, .string (⟨#[]⟩ : ByteArray), .string (⟨#[]⟩ : ByteArray), .string (⟨#[]⟩ : ByteArray), .slice none 0 0, .int .i64 0, .int .i64 0, .slice none 0 0, .string (⟨#[]⟩ : ByteArray)] (fun k_ => (w.heap.size ≤ k_)) (fun k_ => ((fun k_ => (w.heap.size ≤ k_))) k_ ∧ some k_ ≠ (u3 : Value).ownBlock) rfl rfl ?aP (fun _ hk => hk) ?aF ?aO ?aB ?aS ?aL ?_; (case aP => exact (k36_mkF _ _ (⟨(-77), 0, 0, (⟨0, (⟨#[]⟩ : ByteArray), (⟨#[]⟩ : ByteArray), (⟨#[]⟩ : ByteArray), ([] : List (S38)), 0, 0, ([] : List Int)⟩ : S34), (⟨#[]⟩ : ByteArray)⟩ : S36) (Nat.le_refl _) (Kd.F_nil _ _ _) (Nat.le_refl _) (Kd.F_nil _ _ _))); (case aB => exact (by repeat with_reducible first | exact HB.out | apply zae | apply zac | apply zad)); (case aF => exact (fun k_ hk => (Nat.le_trans (zam (by repeat with_reducible first | exact HB.out | apply zae | apply zac | apply zad)) hk))); (case aO => exact (by (with_reducible repeat (first | apply Kd.N_alloc | apply Kd.N_drewN | apply Kd.N_drew)); exact HO_3.out)); (case aS => exact (zam (by repeat with_reducible first | exact HB.out | apply zae | apply zac | apply zad))); (case aL => have := LMc37.out; omega); intro v367 w40 ho hb hg hat; rw [← Ny366.out] at ho; have n0_ := Aside0.mk (hb); have n1_ := Aside0.mk (ho); clear HB; clear HO_3; have HB := n0_; have HO368 := n1_; clear n0_ n1_; clear ho hb hg hat; obtain ⟨Ao41, co41, eo41⟩ := Kd.N_slice HO368.out; subst eo41; have q42 : ((l0.length : Int) : Int) ≤ ((y366.length : Int) : Int) := of_decide_eq_true (by first | (with_reducible assumption) | assumption); obtain ⟨i042, hi042, _, hsz42, _⟩ := info_parts info36; have hcut42 := cut_to (P := Tryd.prog) 23 36 .i64 Tryd.underlying23 hi042 Ao41 y366.length co41 (l0.length : Int) (of_decide_eq_true (by first | (with_reducible assumption) | assumption)) q42 (Kd.N_reads' HO368.out).2.1; have hr42 := Kd.N_take (m := ((l0.length : Int) : Int).toNat) HO368.out (by omega); have hy42 : y369.length = ((l0.length : Int) : Int).toNat := (by rw [Ny369.out, List.length_take]; omega); rw [← Ny369.out] at hr42; rw [← hy42] at hr42 hcut42; clear hy42 hi042 hsz42 HO368; have HO371 := Aside0.mk hr42; clear hr42; replace q42 := eq_true q42))
    go_ret
    exact ⟨_, by first | rfl | (simp [zao, zap] <;> rfl) | (simp [*, zao, zap] <;> rfl), by (with_reducible repeat (first | apply Kd.N_alloc | apply Kd.N_drewN | apply Kd.N_drew)); exact HO371.out, by repeat with_reducible first | exact HB.out | apply zae | apply zac | apply zad⟩
   rw [if_pos c2] at H
   have c2b0 : decide (x4_1 < (l0.length : Int)) = true := decide_eq_true c2
   clear c2
   by_cases c3 : 0 ≤ x4_1
   rotate_left
   ·
    rw [if_neg c3] at H
    exact absurd H (by simp)
   rw [if_pos c3] at H
   have c3b0 : decide (0 ≤ x4_1) = true := decide_eq_true c3
   clear c3
   by_cases c4 : ([] : List (S38)).length + ((zaf l0 x4_1).f3.f4).length < 4398046511104
   rotate_left
   ·
    rw [if_neg c4] at H
    exact absurd H (by simp)
   rw [if_pos c4] at H
   have LMc4 := Aside0.mk c4
   clear c4
   obtain ⟨y336, hy336⟩ : ∃ y_ : List (S38), y_ = (([] : List (S38)) ++ ((zaf l0 x4_1).f3.f4)) := ⟨_, rfl⟩
   replace H : (if y336.length < 4398046511104 then ((some (y336 ++ [(⟨(⟨#[109, 97, 114, 107]⟩ : ByteArray), (⟨#[]⟩ : ByteArray)⟩ : S38)] : List (S38))).bind fun y339 => (if ([] : List Int).length + ((zaf l0 x4_1).f3.f7).length < 17592186044416 then ((some (([] : List Int) ++ ((zaf l0 x4_1).f3.f7) : List Int)).bind fun y342 => (if y342.length < 17592186044416 then ((some (y342 ++ [(-77)] : List Int)).bind fun y345 => (if 0 ≤ (((zaf l0 x4_1).f3.f4).length : Int) then (if (((zaf l0 x4_1).f3.f4).length : Int) ≤ (y339.length : Int) then (if 0 ≤ (((zaf l0 x4_1).f3.f7).length : Int) then (if (((zaf l0 x4_1).f3.f7).length : Int) ≤ (y345.length : Int) then (if x3_1.length < 879609302220 then (cofferlaw22_given.l0 k1 l0 (x3_1 ++ [(⟨(zaf l0 x4_1).f0, (zaf l0 x4_1).f1, (zaf l0 x4_1).f2, (⟨(zaf l0 x4_1).f3.f0, (zaf l0 x4_1).f3.f1, (zaf l0 x4_1).f3.f2, (zaf l0 x4_1).f3.f3, (y339.take ((((zaf l0 x4_1).f3.f4).length : Int) : Int).toNat), (zaf l0 x4_1).f3.f5, (zaf l0 x4_1).f3.f6, (y345.take ((((zaf l0 x4_1).f3.f7).length : Int) : Int).toNat)⟩ : S34), (zaf l0 x4_1).f4⟩ : S36)]) (wrap64 (x4_1 + 1))) else (none)) else (none)) else (none)) else (none)) else (none))) else (none))) else (none))) else (none)) = some r := by first | (rw [hy336]; with_reducible exact H) | (have H2_ := (Option.bind_some _ _).symm.trans H; rw [hy336]; with_reducible exact H2_) | (have H2_ := (Option.bind_some _ _).symm.trans H; with_reducible exact H2_) | with_reducible exact H | (rw [hy336]; exact H) | exact H
   have Ny336 := Aside0.mk hy336
   clear hy336
   by_cases c5 : y336.length < 4398046511104
   rotate_left
   ·
    rw [if_neg c5] at H
    exact absurd H (by simp)
   rw [if_pos c5] at H
   have LMc5 := Aside0.mk c5
   clear c5
   obtain ⟨y339, hy339⟩ : ∃ y_ : List (S38), y_ = (y336 ++ [(⟨(⟨#[109, 97, 114, 107]⟩ : ByteArray), (⟨#[]⟩ : ByteArray)⟩ : S38)]) := ⟨_, rfl⟩
   replace H : (if ([] : List Int).length + ((zaf l0 x4_1).f3.f7).length < 17592186044416 then ((some (([] : List Int) ++ ((zaf l0 x4_1).f3.f7) : List Int)).bind fun y342 => (if y342.length < 17592186044416 then ((some (y342 ++ [(-77)] : List Int)).bind fun y345 => (if 0 ≤ (((zaf l0 x4_1).f3.f4).length : Int) then (if (((zaf l0 x4_1).f3.f4).length : Int) ≤ (y339.length : Int) then (if 0 ≤ (((zaf l0 x4_1).f3.f7).length : Int) then (if (((zaf l0 x4_1).f3.f7).length : Int) ≤ (y345.length : Int) then (if x3_1.length < 879609302220 then (cofferlaw22_given.l0 k1 l0 (x3_1 ++ [(⟨(zaf l0 x4_1).f0, (zaf l0 x4_1).f1, (zaf l0 x4_1).f2, (⟨(zaf l0 x4_1).f3.f0, (zaf l0 x4_1).f3.f1, (zaf l0 x4_1).f3.f2, (zaf l0 x4_1).f3.f3, (y339.take ((((zaf l0 x4_1).f3.f4).length : Int) : Int).toNat), (zaf l0 x4_1).f3.f5, (zaf l0 x4_1).f3.f6, (y345.take ((((zaf l0 x4_1).f3.f7).length : Int) : Int).toNat)⟩ : S34), (zaf l0 x4_1).f4⟩ : S36)]) (wrap64 (x4_1 + 1))) else (none)) else (none)) else (none)) else (none)) else (none))) else (none))) else (none)) = some r := by first | (rw [hy339]; with_reducible exact H) | (have H2_ := (Option.bind_some _ _).symm.trans H; rw [hy339]; with_reducible exact H2_) | (have H2_ := (Option.bind_some _ _).symm.trans H; with_reducible exact H2_) | with_reducible exact H | (rw [hy339]; exact H) | exact H
   have Ny339 := Aside0.mk hy339
   clear hy339
   by_cases c6 : ([] : List Int).length + ((zaf l0 x4_1).f3.f7).length < 17592186044416
   rotate_left
   ·
    rw [if_neg c6] at H
    exact absurd H (by simp)
   rw [if_pos c6] at H
   have LMc6 := Aside0.mk c6
   clear c6
   obtain ⟨y342, hy342⟩ : ∃ y_ : List Int, y_ = (([] : List Int) ++ ((zaf l0 x4_1).f3.f7)) := ⟨_, rfl⟩
   replace H : (if y342.length < 17592186044416 then ((some (y342 ++ [(-77)] : List Int)).bind fun y345 => (if 0 ≤ (((zaf l0 x4_1).f3.f4).length : Int) then (if (((zaf l0 x4_1).f3.f4).length : Int) ≤ (y339.length : Int) then (if 0 ≤ (((zaf l0 x4_1).f3.f7).length : Int) then (if (((zaf l0 x4_1).f3.f7).length : Int) ≤ (y345.length : Int) then (if x3_1.length < 879609302220 then (cofferlaw22_given.l0 k1 l0 (x3_1 ++ [(⟨(zaf l0 x4_1).f0, (zaf l0 x4_1).f1, (zaf l0 x4_1).f2, (⟨(zaf l0 x4_1).f3.f0, (zaf l0 x4_1).f3.f1, (zaf l0 x4_1).f3.f2, (zaf l0 x4_1).f3.f3, (y339.take ((((zaf l0 x4_1).f3.f4).length : Int) : Int).toNat), (zaf l0 x4_1).f3.f5, (zaf l0 x4_1).f3.f6, (y345.take ((((zaf l0 x4_1).f3.f7).length : Int) : Int).toNat)⟩ : S34), (zaf l0 x4_1).f4⟩ : S36)]) (wrap64 (x4_1 + 1))) else (none)) else (none)) else (none)) else (none)) else (none))) else (none)) = some r := by first | (rw [hy342]; with_reducible exact H) | (have H2_ := (Option.bind_some _ _).symm.trans H; rw [hy342]; with_reducible exact H2_) | (have H2_ := (Option.bind_some _ _).symm.trans H; with_reducible exact H2_) | with_reducible exact H | (rw [hy342]; exact H) | exact H
   have Ny342 := Aside0.mk hy342
   clear hy342
   by_cases c7 : y342.length < 17592186044416
   rotate_left
   ·
    rw [if_neg c7] at H
    exact absurd H (by simp)
   rw [if_pos c7] at H
   have LMc7 := Aside0.mk c7
   clear c7
   obtain ⟨y345, hy345⟩ : ∃ y_ : List Int, y_ = (y342 ++ [(-77)]) := ⟨_, rfl⟩
   replace H : (if 0 ≤ (((zaf l0 x4_1).f3.f4).length : Int) then (if (((zaf l0 x4_1).f3.f4).length : Int) ≤ (y339.length : Int) then (if 0 ≤ (((zaf l0 x4_1).f3.f7).length : Int) then (if (((zaf l0 x4_1).f3.f7).length : Int) ≤ (y345.length : Int) then (if x3_1.length < 879609302220 then (cofferlaw22_given.l0 k1 l0 (x3_1 ++ [(⟨(zaf l0 x4_1).f0, (zaf l0 x4_1).f1, (zaf l0 x4_1).f2, (⟨(zaf l0 x4_1).f3.f0, (zaf l0 x4_1).f3.f1, (zaf l0 x4_1).f3.f2, (zaf l0 x4_1).f3.f3, (y339.take ((((zaf l0 x4_1).f3.f4).length : Int) : Int).toNat), (zaf l0 x4_1).f3.f5, (zaf l0 x4_1).f3.f6, (y345.take ((((zaf l0 x4_1).f3.f7).length : Int) : Int).toNat)⟩ : S34), (zaf l0 x4_1).f4⟩ : S36)]) (wrap64 (x4_1 + 1))) else (none)) else (none)) else (none)) else (none)) else (none)) = some r := by first | (rw [hy345]; with_reducible exact H) | (have H2_ := (Option.bind_some _ _).symm.trans H; rw [hy345]; with_reducible exact H2_) | (have H2_ := (Option.bind_some _ _).symm.trans H; with_reducible exact H2_) | with_reducible exact H | (rw [hy345]; exact H) | exact H
   have Ny345 := Aside0.mk hy345
   clear hy345
   by_cases c8 : 0 ≤ (((zaf l0 x4_1).f3.f4).length : Int)
   rotate_left
   ·
    rw [if_neg c8] at H
    exact absurd H (by simp)
   rw [if_pos c8] at H
   have c8b0 := eq_true c8
   have c8b1 : decide (0 ≤ (((zaf l0 x4_1).f3.f4).length : Int)) = true := decide_eq_true c8
   clear c8
   by_cases c9 : (((zaf l0 x4_1).f3.f4).length : Int) ≤ (y339.length : Int)
   rotate_left
   ·
    rw [if_neg c9] at H
    exact absurd H (by simp)
   rw [if_pos c9] at H
   have c9b0 := eq_true c9
   have c9b1 : decide ((((zaf l0 x4_1).f3.f4).length : Int) ≤ (y339.length : Int)) = true := decide_eq_true c9
   clear c9
   obtain ⟨y348, hy348⟩ : ∃ y_ : List (S38), y_ = (y339.take ((((zaf l0 x4_1).f3.f4).length : Int) : Int).toNat) := ⟨_, rfl⟩
   replace H : (if 0 ≤ (((zaf l0 x4_1).f3.f7).length : Int) then (if (((zaf l0 x4_1).f3.f7).length : Int) ≤ (y345.length : Int) then (if x3_1.length < 879609302220 then (cofferlaw22_given.l0 k1 l0 (x3_1 ++ [(⟨(zaf l0 x4_1).f0, (zaf l0 x4_1).f1, (zaf l0 x4_1).f2, (⟨(zaf l0 x4_1).f3.f0, (zaf l0 x4_1).f3.f1, (zaf l0 x4_1).f3.f2, (zaf l0 x4_1).f3.f3, y348, (zaf l0 x4_1).f3.f5, (zaf l0 x4_1).f3.f6, (y345.take ((((zaf l0 x4_1).f3.f7).length : Int) : Int).toNat)⟩ : S34), (zaf l0 x4_1).f4⟩ : S36)]) (wrap64 (x4_1 + 1))) else (none)) else (none)) else (none)) = some r := by first | (rw [hy348]; with_reducible exact H) | (have H2_ := (Option.bind_some _ _).symm.trans H; rw [hy348]; with_reducible exact H2_) | (have H2_ := (Option.bind_some _ _).symm.trans H; with_reducible exact H2_) | with_reducible exact H | (rw [hy348]; exact H) | exact H
   have Ny348 := Aside0.mk hy348
   clear hy348
   by_cases c10 : 0 ≤ (((zaf l0 x4_1).f3.f7).length : Int)
   rotate_left
   ·
    rw [if_neg c10] at H
    exact absurd H (by simp)
   rw [if_pos c10] at H
   have c10b0 := eq_true c10
   have c10b1 : decide (0 ≤ (((zaf l0 x4_1).f3.f7).length : Int)) = true := decide_eq_true c10
   clear c10
   by_cases c11 : (((zaf l0 x4_1).f3.f7).length : Int) ≤ (y345.length : Int)
   rotate_left
   ·
    rw [if_neg c11] at H
    exact absurd H (by simp)
   rw [if_pos c11] at H
   have c11b0 := eq_true c11
   have c11b1 : decide ((((zaf l0 x4_1).f3.f7).length : Int) ≤ (y345.length : Int)) = true := decide_eq_true c11
   clear c11
   obtain ⟨y353, hy353⟩ : ∃ y_ : List Int, y_ = (y345.take ((((zaf l0 x4_1).f3.f7).length : Int) : Int).toNat) := ⟨_, rfl⟩
   replace H : (if x3_1.length < 879609302220 then (cofferlaw22_given.l0 k1 l0 (x3_1 ++ [(⟨(zaf l0 x4_1).f0, (zaf l0 x4_1).f1, (zaf l0 x4_1).f2, (⟨(zaf l0 x4_1).f3.f0, (zaf l0 x4_1).f3.f1, (zaf l0 x4_1).f3.f2, (zaf l0 x4_1).f3.f3, y348, (zaf l0 x4_1).f3.f5, (zaf l0 x4_1).f3.f6, y353⟩ : S34), (zaf l0 x4_1).f4⟩ : S36)]) (wrap64 (x4_1 + 1))) else (none)) = some r := by first | (rw [hy353]; with_reducible exact H) | (have H2_ := (Option.bind_some _ _).symm.trans H; rw [hy353]; with_reducible exact H2_) | (have H2_ := (Option.bind_some _ _).symm.trans H; with_reducible exact H2_) | with_reducible exact H | (rw [hy353]; exact H) | exact H
   have Ny353 := Aside0.mk hy353
   clear hy353
   by_cases c12 : x3_1.length < 879609302220
   rotate_left
   ·
    rw [if_neg c12] at H
    exact absurd H (by simp)
   rw [if_pos c12] at H
   have LMc12 := Aside0.mk c12
   clear c12
   obtain ⟨y363, hy363⟩ : ∃ y_ : List (S36), y_ = (x3_1 ++ [(⟨(zaf l0 x4_1).f0, (zaf l0 x4_1).f1, (zaf l0 x4_1).f2, (⟨(zaf l0 x4_1).f3.f0, (zaf l0 x4_1).f3.f1, (zaf l0 x4_1).f3.f2, (zaf l0 x4_1).f3.f3, y348, (zaf l0 x4_1).f3.f5, (zaf l0 x4_1).f3.f6, y353⟩ : S34), (zaf l0 x4_1).f4⟩ : S36)]) := ⟨_, rfl⟩
   replace H : (cofferlaw22_given.l0 k1 l0 y363 (wrap64 (x4_1 + 1))) = some r := by first | (rw [hy363]; with_reducible exact H) | (have H2_ := (Option.bind_some _ _).symm.trans H; rw [hy363]; with_reducible exact H2_) | (have H2_ := (Option.bind_some _ _).symm.trans H; with_reducible exact H2_) | with_reducible exact H | (rw [hy363]; exact H) | exact H
   have Ny363 := Aside0.mk hy363
   clear hy363
   have H' := Aside0.mk H
   clear H
   have p334 : 0 ≤ (x4_1 : Int) := of_decide_eq_true (by first | (with_reducible assumption) | assumption)
   have q334 : x4_1 < (l0.length : Int) := of_decide_eq_true (by first | (with_reducible assumption) | assumption)
   obtain ⟨ad334, A334_7, c334_7, A334_10, c334_10, e334, hx334_0, hx334_1, hx334_2, hx334_3, hx334_4, hx334_5, hx334_6, hx334_7, hx334_8, hx334_9, hx334_10, hx334_11, hl334_7, hi334_7, hl334_10, hi334_10⟩ := at_T57 HR0.out x4_1 p334 q334
   cases e334
   replace hx334_0 := (HB.out.cell (World.block_lt_of_cell? w _ hx334_0)).trans hx334_0
   replace hx334_1 := (HB.out.cell (World.block_lt_of_cell? w _ hx334_1)).trans hx334_1
   replace hx334_2 := (HB.out.cell (World.block_lt_of_cell? w _ hx334_2)).trans hx334_2
   replace hx334_3 := (HB.out.cell (World.block_lt_of_cell? w _ hx334_3)).trans hx334_3
   replace hx334_4 := (HB.out.cell (World.block_lt_of_cell? w _ hx334_4)).trans hx334_4
   replace hx334_5 := (HB.out.cell (World.block_lt_of_cell? w _ hx334_5)).trans hx334_5
   replace hx334_6 := (HB.out.cell (World.block_lt_of_cell? w _ hx334_6)).trans hx334_6
   replace hx334_7 := (HB.out.cell (World.block_lt_of_cell? w _ hx334_7)).trans hx334_7
   replace hx334_8 := (HB.out.cell (World.block_lt_of_cell? w _ hx334_8)).trans hx334_8
   replace hx334_9 := (HB.out.cell (World.block_lt_of_cell? w _ hx334_9)).trans hx334_9
   replace hx334_10 := (HB.out.cell (World.block_lt_of_cell? w _ hx334_10)).trans hx334_10
   replace hx334_11 := (HB.out.cell (World.block_lt_of_cell? w _ hx334_11)).trans hx334_11
   have HR334_7 := Aside0.mk hi334_7
   have HC334_7 := Aside0.mk hl334_7
   clear hi334_7 hl334_7
   have HR334_10 := Aside0.mk hi334_10
   have HC334_10 := Aside0.mk hl334_10
   clear hi334_10 hl334_10
   replace p334 := eq_true p334
   replace q334 := eq_true q334
   try go_wp2_with (first | ((with_reducible refine zbi (N := 5) rfl ?_); refine zbf ?hg (N := 5) ?hd (cs := #[.int .i64 0, .string (⟨#[]⟩ : ByteArray), .string (⟨#[]⟩ : ByteArray), .string (⟨#[]⟩ : ByteArray), .slice none 0 0, .int .i64 0, .int .i64 0, .slice none 0 0]) (t := 55) ?hr ?_; (case hd => rfl); (case hg => rfl); (case hr => first | (go_simp; done) | (go_simp; rfl)); intro gb335 hg w13 hbox hb; have n0_ := Aside0.mk (Kd.N_below (Kd.N_elderB (by (with_reducible repeat (first | apply Kd.N_alloc | apply Kd.N_drewN | apply Kd.N_drew)); exact HO_3.out) gb335 (Nat.le_of_eq hg.symm)) hb); have n1_ := Aside0.mk (zar (by repeat with_reducible first | exact HB.out | apply zae | apply zac | apply zad) hb); have n2_ := Aside0.mk (hbox); have n3_ := Aside0.mk ((by rw [hg]; exact (zam (by repeat with_reducible first | exact HB.out | apply zae | apply zac | apply zad)) : w.heap.size ≤ gb335)); have n4_ := Aside0.mk ((by rw [hg]; exact (zam (by repeat with_reducible first | exact HB.out | apply zae | apply zac | apply zad)) : w.heap.size ≤ gb335)); clear HO_3; clear HB; have HO_3 := n0_; have HB := n1_; have BK335 := n2_; have GW335 := n3_; have GE335 := n4_; clear n0_ n1_ n2_ n3_ n4_; clear hb hbox hg; have hcz14_0 : w13.cell? ⟨gb335, 0, none⟩ = some (.int .i64 0) := (zaa BK335.out 0).trans rfl; have hcz14_1 : w13.cell? ⟨gb335, 1, none⟩ = some (.string (⟨#[]⟩ : ByteArray)) := (zaa BK335.out 1).trans rfl; have hcz14_2 : w13.cell? ⟨gb335, 2, none⟩ = some (.string (⟨#[]⟩ : ByteArray)) := (zaa BK335.out 2).trans rfl; have hcz14_3 : w13.cell? ⟨gb335, 3, none⟩ = some (.string (⟨#[]⟩ : ByteArray)) := (zaa BK335.out 3).trans rfl; have hcz14_4 : w13.cell? ⟨gb335, 4, none⟩ = some (.slice none 0 0) := (zaa BK335.out 4).trans rfl; have hcz14_5 : w13.cell? ⟨gb335, 5, none⟩ = some (.int .i64 0) := (zaa BK335.out 5).trans rfl; have hcz14_6 : w13.cell? ⟨gb335, 6, none⟩ = some (.int .i64 0) := (zaa BK335.out 6).trans rfl; have hcz14_7 : w13.cell? ⟨gb335, 7, none⟩ = some (.slice none 0 0) := (zaa BK335.out 7).trans rfl; have hfz14_0 := zab BK335.out 0; have hfz14_1 := zab BK335.out 1; have hfz14_2 := zab BK335.out 2; have hfz14_3 := zab BK335.out 3; have hfz14_4 := zab BK335.out 4; have hfz14_5 := zab BK335.out 5; have hfz14_6 := zab BK335.out 6; have hfz14_7 := zab BK335.out 7) | ((with_reducible refine zax (b := .append) (xs := #[.tmp 20, .tmp 22]) rfl ?_); at_builtin; refine Kd.R_append_rows k38 (w0 := w) w.heap.size rfl (.tmp 20) (.tmp 22) 31 38 (.agg #[(.string ⟨#[]⟩), (.string ⟨#[]⟩)]) 32 rfl Tryd.underlying31 info38 rfl (by decide) (by omega) (.slice none 0 0) ([] : List (S38)) ((zaf l0 x4_1).f3.f4) _ _ _ (fun k_ => (w.heap.size ≤ k_)) (fun _ => False) rfl rfl ?aO ?aR (fun _ _ h => h) (fun _ h => h.elim) ?aF ?aB ?aS ?aL ?_; (case aR => exact Kd.C_below HR334_7.out (by repeat with_reducible first | exact HB.out | apply zae | apply zac | apply zad | refine zak ?_ GE335.out)); (case aB => exact (by repeat with_reducible first | exact HB.out | apply zae | apply zac | apply zad | refine zak ?_ GE335.out)); (case aF => exact (fun k_ hk => (Nat.le_trans (zam (by repeat with_reducible first | exact HB.out | apply zae | apply zac | apply zad | refine zak ?_ GE335.out)) hk))); (case aO => exact ((Kd.R_nil _ _ _ _ (fun k_ => (w.heap.size ≤ k_))))); (case aS => exact (zam (by repeat with_reducible first | exact HB.out | apply zae | apply zac | apply zad | refine zak ?_ GE335.out))); (case aL => have := LMc4.out; omega); intro v337 w15 ho hb hg hat; rw [← Ny336.out] at ho; have n0_ := Aside0.mk (Kd.N_afterv (Kd.N_apart_nil (by (with_reducible repeat (first | apply Kd.N_alloc | apply Kd.N_drewN | apply Kd.N_drew)); exact (Kd.N_mono (Kd.N_far (p := ⟨gb335, 7, none⟩) (Kd.N_far (p := ⟨gb335, 6, none⟩) (Kd.N_far (p := ⟨gb335, 5, none⟩) (Kd.N_far (p := ⟨gb335, 4, none⟩) (Kd.N_far (p := ⟨gb335, 3, none⟩) (Kd.N_far (p := ⟨gb335, 2, none⟩) (Kd.N_far (p := ⟨gb335, 1, none⟩) (Kd.N_far (p := ⟨gb335, 0, none⟩) (Kd.N_mono HO_3.out (fun k_ hk => (⟨hk, hk.2⟩ : _ ∧ k_ ≠ gb335))) (fun _ hk => hk.2) (.int .i64 ((zaf l0 x4_1).f3.f0))) (fun _ hk => hk.2) (.string ((zaf l0 x4_1).f3.f1))) (fun _ hk => hk.2) (.string ((zaf l0 x4_1).f3.f2))) (fun _ hk => hk.2) (.string ((zaf l0 x4_1).f3.f3))) (fun _ hk => hk.2) (.slice A334_7 ((zaf l0 x4_1).f3.f4).length c334_7)) (fun _ hk => hk.2) (.int .i64 ((zaf l0 x4_1).f3.f5))) (fun _ hk => hk.2) (.int .i64 ((zaf l0 x4_1).f3.f6))) (fun _ hk => hk.2) (.slice A334_10 ((zaf l0 x4_1).f3.f7).length c334_10)) (fun _ h_ => h_.1)))) hg hat); have n1_ := Aside0.mk (zbe (g := gb335) (o := .cells #[.int .i64 ((zaf l0 x4_1).f3.f0), .string ((zaf l0 x4_1).f3.f1), .string ((zaf l0 x4_1).f3.f2), .string ((zaf l0 x4_1).f3.f3), .slice A334_7 ((zaf l0 x4_1).f3.f4).length c334_7, .int .i64 ((zaf l0 x4_1).f3.f5), .int .i64 ((zaf l0 x4_1).f3.f6), .slice A334_10 ((zaf l0 x4_1).f3.f7).length c334_10] 55 (0, 0)) (by (with_reducible repeat (first | refine zai ?_ _ | refine zaj ?_ | refine zah ?_ _)); refine zaq (cs := #[.int .i64 ((zaf l0 x4_1).f3.f0), .string ((zaf l0 x4_1).f3.f1), .string ((zaf l0 x4_1).f3.f2), .string ((zaf l0 x4_1).f3.f3), .slice A334_7 ((zaf l0 x4_1).f3.f4).length c334_7, .int .i64 ((zaf l0 x4_1).f3.f5), .int .i64 ((zaf l0 x4_1).f3.f6), .slice none 0 0]) ?_ 7 _ rfl; (with_reducible repeat (first | refine zai ?_ _ | refine zaj ?_ | refine zah ?_ _)); refine zaq (cs := #[.int .i64 ((zaf l0 x4_1).f3.f0), .string ((zaf l0 x4_1).f3.f1), .string ((zaf l0 x4_1).f3.f2), .string ((zaf l0 x4_1).f3.f3), .slice A334_7 ((zaf l0 x4_1).f3.f4).length c334_7, .int .i64 ((zaf l0 x4_1).f3.f5), .int .i64 0, .slice none 0 0]) ?_ 6 _ rfl; (with_reducible repeat (first | refine zai ?_ _ | refine zaj ?_ | refine zah ?_ _)); refine zaq (cs := #[.int .i64 ((zaf l0 x4_1).f3.f0), .string ((zaf l0 x4_1).f3.f1), .string ((zaf l0 x4_1).f3.f2), .string ((zaf l0 x4_1).f3.f3), .slice A334_7 ((zaf l0 x4_1).f3.f4).length c334_7, .int .i64 0, .int .i64 0, .slice none 0 0]) ?_ 5 _ rfl; (with_reducible repeat (first | refine zai ?_ _ | refine zaj ?_ | refine zah ?_ _)); refine zaq (cs := #[.int .i64 ((zaf l0 x4_1).f3.f0), .string ((zaf l0 x4_1).f3.f1), .string ((zaf l0 x4_1).f3.f2), .string ((zaf l0 x4_1).f3.f3), .slice none 0 0, .int .i64 0, .int .i64 0, .slice none 0 0]) ?_ 4 _ rfl; (with_reducible repeat (first | refine zai ?_ _ | refine zaj ?_ | refine zah ?_ _)); refine zaq (cs := #[.int .i64 ((zaf l0 x4_1).f3.f0), .string ((zaf l0 x4_1).f3.f1), .string ((zaf l0 x4_1).f3.f2), .string (⟨#[]⟩ : ByteArray), .slice none 0 0, .int .i64 0, .int .i64 0, .slice none 0 0]) ?_ 3 _ rfl; (with_reducible repeat (first | refine zai ?_ _ | refine zaj ?_ | refine zah ?_ _)); refine zaq (cs := #[.int .i64 ((zaf l0 x4_1).f3.f0), .string ((zaf l0 x4_1).f3.f1), .string (⟨#[]⟩ : ByteArray), .string (⟨#[]⟩ : ByteArray), .slice none 0 0, .int .i64 0, .int .i64 0, .slice none 0 0]) ?_ 2 _ rfl; (with_reducible repeat (first | refine zai ?_ _ | refine zaj ?_ | refine zah ?_ _)); refine zaq (cs := #[.int .i64 ((zaf l0 x4_1).f3.f0), .string (⟨#[]⟩ : ByteArray), .string (⟨#[]⟩ : ByteArray), .string (⟨#[]⟩ : ByteArray), .slice none 0 0, .int .i64 0, .int .i64 0, .slice none 0 0]) ?_ 1 _ rfl; (with_reducible repeat (first | refine zai ?_ _ | refine zaj ?_ | refine zah ?_ _)); refine zaq (cs := #[.int .i64 0, .string (⟨#[]⟩ : ByteArray), .string (⟨#[]⟩ : ByteArray), .string (⟨#[]⟩ : ByteArray), .slice none 0 0, .int .i64 0, .int .i64 0, .slice none 0 0]) ?_ 0 _ rfl; (with_reducible repeat (first | refine zai ?_ _ | refine zaj ?_ | refine zah ?_ _)); exact BK335.out) hg (by simp [Value.ownBlock])); have n2_ := Aside0.mk (hb); have n3_ := Aside0.mk (ho); clear HO_3; clear BK335; clear HB; have HO_3 := n0_; have BK335 := n1_; have HB := n2_; have HO338 := n3_; clear n0_ n1_ n2_ n3_; clear ho hb hg hat) | ((with_reducible refine zax (b := .append) (xs := #[.tmp 24, .tmp 26]) rfl ?_); at_builtin; refine Kd.R_append k38 (w0 := w) w.heap.size rfl (.tmp 24) (.tmp 26) 31 38 (.agg #[(.string ⟨#[]⟩), (.string ⟨#[]⟩)]) 32 rfl Tryd.underlying31 info38 rfl (by decide) (by omega) v337 y336 (⟨(⟨#[109, 97, 114, 107]⟩ : ByteArray), (⟨#[]⟩ : ByteArray)⟩ : S38) [.string (⟨#[109, 97, 114, 107]⟩ : ByteArray), .string (⟨#[]⟩ : ByteArray)] (fun k_ => (w.heap.size ≤ k_)) (fun _ => False) rfl rfl ?aP (fun _ hk => hk.elim) ?aF ?aO ?aB ?aS ?aL ?_; (case aP => exact k38_mkM _ _ _ (⟨(⟨#[109, 97, 114, 107]⟩ : ByteArray), (⟨#[]⟩ : ByteArray)⟩ : S38)); (case aB => exact (by repeat with_reducible first | exact HB.out | apply zae | apply zac | apply zad | refine zak ?_ GE335.out)); (case aF => exact (fun k_ hk => (Nat.le_trans (zam (by repeat with_reducible first | exact HB.out | apply zae | apply zac | apply zad | refine zak ?_ GE335.out)) hk))); (case aO => exact (by (with_reducible repeat (first | apply Kd.R_alloc | apply Kd.R_drewN | apply Kd.R_drew)); exact HO338.out)); (case aS => exact (zam (by repeat with_reducible first | exact HB.out | apply zae | apply zac | apply zad | refine zak ?_ GE335.out))); (case aL => have := LMc5.out; omega); intro v340 w16 ho hb hg hat; rw [← Ny339.out] at ho; have n0_ := Aside0.mk (Kd.N_afterv (ok := (fun k_ => (w.heap.size ≤ k_) ∧ k_ ≠ gb335)) (by (with_reducible repeat (first | apply Kd.N_alloc | apply Kd.N_drewN | apply Kd.N_drew)); exact HO_3.out) hg hat); have n1_ := Aside0.mk (zbe (g := gb335) (o := .cells #[.int .i64 ((zaf l0 x4_1).f3.f0), .string ((zaf l0 x4_1).f3.f1), .string ((zaf l0 x4_1).f3.f2), .string ((zaf l0 x4_1).f3.f3), .slice A334_7 ((zaf l0 x4_1).f3.f4).length c334_7, .int .i64 ((zaf l0 x4_1).f3.f5), .int .i64 ((zaf l0 x4_1).f3.f6), .slice A334_10 ((zaf l0 x4_1).f3.f7).length c334_10] 55 (0, 0)) (by (with_reducible repeat (first | refine zai ?_ _ | refine zaj ?_ | refine zah ?_ _)); exact BK335.out) hg (Kd.R_ne HO338.out BK335.out (by decide))); have n2_ := Aside0.mk (hb); have n3_ := Aside0.mk (ho); clear HO_3; clear BK335; clear HB; clear HO338; have HO_3 := n0_; have BK335 := n1_; have HB := n2_; have HO341 := n3_; clear n0_ n1_ n2_ n3_; clear ho hb hg hat; have hcz17_0 : w16.cell? ⟨gb335, 0, none⟩ = some (.int .i64 ((zaf l0 x4_1).f3.f0)) := (zaa BK335.out 0).trans rfl; have hcz17_1 : w16.cell? ⟨gb335, 1, none⟩ = some (.string ((zaf l0 x4_1).f3.f1)) := (zaa BK335.out 1).trans rfl; have hcz17_2 : w16.cell? ⟨gb335, 2, none⟩ = some (.string ((zaf l0 x4_1).f3.f2)) := (zaa BK335.out 2).trans rfl; have hcz17_3 : w16.cell? ⟨gb335, 3, none⟩ = some (.string ((zaf l0 x4_1).f3.f3)) := (zaa BK335.out 3).trans rfl; have hcz17_4 : w16.cell? ⟨gb335, 4, none⟩ = some (.slice A334_7 ((zaf l0 x4_1).f3.f4).length c334_7) := (zaa BK335.out 4).trans rfl; have hcz17_5 : w16.cell? ⟨gb335, 5, none⟩ = some (.int .i64 ((zaf l0 x4_1).f3.f5)) := (zaa BK335.out 5).trans rfl; have hcz17_6 : w16.cell? ⟨gb335, 6, none⟩ = some (.int .i64 ((zaf l0 x4_1).f3.f6)) := (zaa BK335.out 6).trans rfl; have hcz17_7 : w16.cell? ⟨gb335, 7, none⟩ = some (.slice A334_10 ((zaf l0 x4_1).f3.f7).length c334_10) := (zaa BK335.out 7).trans rfl; have hfz17_0 := zab BK335.out 0; have hfz17_1 := zab BK335.out 1; have hfz17_2 := zab BK335.out 2; have hfz17_3 := zab BK335.out 3; have hfz17_4 := zab BK335.out 4; have hfz17_5 := zab BK335.out 5; have hfz17_6 := zab BK335.out 6; have hfz17_7 := zab BK335.out 7) | ((with_reducible refine zax (b := .append) (xs := #[.tmp 28, .tmp 30]) rfl ?_); at_builtin; refine Kd.R_append_rows (Kd.int .i64) (w0 := w) w.heap.size rfl (.tmp 28) (.tmp 30) 32 3 (.int .i64 0) 8 rfl Tryd.underlying32 info3 rfl (by decide) (by omega) (.slice none 0 0) ([] : List Int) ((zaf l0 x4_1).f3.f7) _ _ _ (fun k_ => (w.heap.size ≤ k_)) (fun _ => False) rfl rfl ?aO ?aR (fun _ _ h => h) (fun _ h => h.elim) ?aF ?aB ?aS ?aL ?_; (case aR => repeat (first | exact (Kd.C_below HR334_10.out HB.out) | (with_reducible refine Kd.C_alloc ?_ _) | (with_reducible refine Kd.C_drewN ?_ _) | (with_reducible refine Kd.C_drew ?_))); (case aB => exact (by repeat with_reducible first | exact HB.out | apply zae | apply zac | apply zad | refine zak ?_ GE335.out)); (case aF => exact (fun k_ hk => (Nat.le_trans (zam (by repeat with_reducible first | exact HB.out | apply zae | apply zac | apply zad | refine zak ?_ GE335.out)) hk))); (case aO => exact ((Kd.R_nil _ _ _ _ (fun k_ => (w.heap.size ≤ k_))))); (case aS => exact (zam (by repeat with_reducible first | exact HB.out | apply zae | apply zac | apply zad | refine zak ?_ GE335.out))); (case aL => have := LMc6.out; omega); intro v343 w18 ho hb hg hat; rw [← Ny342.out] at ho; have n0_ := Aside0.mk (Kd.N_afterv (Kd.N_apart_nil (by (with_reducible repeat (first | apply Kd.N_alloc | apply Kd.N_drewN | apply Kd.N_drew)); exact HO_3.out)) hg hat); have n1_ := Aside0.mk (zbe (g := gb335) (o := .cells #[.int .i64 ((zaf l0 x4_1).f3.f0), .string ((zaf l0 x4_1).f3.f1), .string ((zaf l0 x4_1).f3.f2), .string ((zaf l0 x4_1).f3.f3), .slice A334_7 ((zaf l0 x4_1).f3.f4).length c334_7, .int .i64 ((zaf l0 x4_1).f3.f5), .int .i64 ((zaf l0 x4_1).f3.f6), .slice A334_10 ((zaf l0 x4_1).f3.f7).length c334_10] 55 (0, 0)) (by (with_reducible repeat (first | refine zai ?_ _ | refine zaj ?_ | refine zah ?_ _)); exact BK335.out) hg (by simp [Value.ownBlock])); have n2_ := Aside0.mk (Kd.R_grown (by (with_reducible repeat (first | apply Kd.R_alloc | apply Kd.R_drewN | apply Kd.R_drew)); exact HO341.out) hg (fun _ _ => by simp [Value.ownBlock])); have n3_ := Aside0.mk (hb); have n4_ := Aside0.mk (ho); clear HO_3; clear BK335; clear HO341; clear HB; have HO_3 := n0_; have BK335 := n1_; have HO341 := n2_; have HB := n3_; have HO344 := n4_; clear n0_ n1_ n2_ n3_ n4_; clear ho hb hg hat) | ((with_reducible refine zax (b := .append) (xs := #[.tmp 32, .tmp 33]) rfl ?_); at_builtin; refine Kd.R_append (Kd.int .i64) (w0 := w) w.heap.size rfl (.tmp 32) (.tmp 33) 32 3 (.int .i64 0) 8 rfl Tryd.underlying32 info3 rfl (by decide) (by omega) v343 y342 (-77) [.int .i64 (-77)] (fun k_ => (w.heap.size ≤ k_)) (fun _ => False) rfl rfl ?aP (fun _ hk => hk.elim) ?aF ?aO ?aB ?aS ?aL ?_; (case aP => exact rfl); (case aB => exact (by repeat with_reducible first | exact HB.out | apply zae | apply zac | apply zad | refine zak ?_ GE335.out)); (case aF => exact (fun k_ hk => (Nat.le_trans (zam (by repeat with_reducible first | exact HB.out | apply zae | apply zac | apply zad | refine zak ?_ GE335.out)) hk))); (case aO => exact (by (with_reducible repeat (first | apply Kd.R_alloc | apply Kd.R_drewN | apply Kd.R_drew)); exact HO344.out)); (case aS => exact (zam (by repeat with_reducible first | exact HB.out | apply zae | apply zac | apply zad | refine zak ?_ GE335.out))); (case aL => have := LMc7.out; omega); intro v346 w19 ho hb hg hat; rw [← Ny345.out] at ho; have n0_ := Aside0.mk (Kd.N_afterv (ok := (fun k_ => (w.heap.size ≤ k_) ∧ some k_ ≠ (v340 : Value).ownBlock ∧ k_ ≠ gb335)) (by (with_reducible repeat (first | apply Kd.N_alloc | apply Kd.N_drewN | apply Kd.N_drew)); exact Kd.N_mono HO_3.out (fun _ hk => ⟨⟨hk.1.1.1, ⟨hk.1.2, hk.1.1.2⟩⟩, hk.2⟩)) hg hat); have n1_ := Aside0.mk (zbe (g := gb335) (o := .cells #[.int .i64 ((zaf l0 x4_1).f3.f0), .string ((zaf l0 x4_1).f3.f1), .string ((zaf l0 x4_1).f3.f2), .string ((zaf l0 x4_1).f3.f3), .slice A334_7 ((zaf l0 x4_1).f3.f4).length c334_7, .int .i64 ((zaf l0 x4_1).f3.f5), .int .i64 ((zaf l0 x4_1).f3.f6), .slice A334_10 ((zaf l0 x4_1).f3.f7).length c334_10] 55 (0, 0)) (by (with_reducible repeat (first | refine zai ?_ _ | refine zaj ?_ | refine zah ?_ _)); exact BK335.out) hg (Kd.R_ne HO344.out BK335.out (by decide))); have n2_ := Aside0.mk (Kd.R_over' (by (with_reducible repeat (first | apply Kd.R_alloc | apply Kd.R_drewN | apply Kd.R_drew)); exact HO341.out) (Kd.R_typed (by (with_reducible repeat (first | apply Kd.R_alloc | apply Kd.R_drewN | apply Kd.R_drew)); exact HO344.out)) (by decide) hg); have n3_ := Aside0.mk (hb); have n4_ := Aside0.mk (ho); clear HO_3; clear BK335; clear HO341; clear HB; clear HO344; have HO_3 := n0_; have BK335 := n1_; have HO341 := n2_; have HB := n3_; have HO347 := n4_; clear n0_ n1_ n2_ n3_ n4_; clear ho hb hg hat))
   have n0_ := Aside0.mk (Kd.N_drew HO_3.out)
   have n1_ := Aside0.mk (Kd.R_drew HO341.out)
   have n2_ := Aside0.mk (Kd.R_drew HO347.out)
   have n3_ := Aside0.mk (zaj BK335.out)
   have n4_ := Aside0.mk (zad HB.out)
   clear HO_3
   clear HO341
   clear HO347
   clear BK335
   clear HB
   have HO_3 := n0_
   have HO341 := n1_
   have HO347 := n2_
   have BK335 := n3_
   have HB := n4_
   clear n0_ n1_ n2_ n3_ n4_
   obtain ⟨Ao22, co22, eo22⟩ := Kd.R_slice HO341.out
   (first | subst eo22 | (injection eo22 with f1_ f2_ f3_; have f4_ := f1_.symm; have f5_ := f3_.symm; clear f1_ f2_ f3_; subst f4_; subst f5_))
   have q21 : ((((zaf l0 x4_1).f3.f4).length : Int) : Int) ≤ ((y339.length : Int) : Int) := of_decide_eq_true (by first | (with_reducible assumption) | assumption)
   obtain ⟨i021, hi021, _, hsz21, _⟩ := info_parts info38
   have hroom21 : y339.length ≤ co22 := (Kd.R_reads' HO341.out).2.1
   have hC21 : Kd.F k38 _ _ Ao22 y339.length y339 := (Kd.V_at (base := w.heap.size) (Kd.R_V (Kd.R_types (Kd.R_apart' (Kd.R_apart' (HO341.out) (Kd.N_typed HO_3.out) (by decide)) (Kd.R_typed HO347.out) (by decide)) BK335.out (by decide)))).2.2
   have hcut21 := cut_to (P := Tryd.prog) 31 38 .i64 Tryd.underlying31 hi021 Ao22 y339.length co22 (((zaf l0 x4_1).f3.f4).length : Int) (of_decide_eq_true (by first | (with_reducible assumption) | assumption)) q21 hroom21
   have hr21 := Kd.F_take (m := ((((zaf l0 x4_1).f3.f4).length : Int) : Int).toNat) hC21 (by omega)
   have hy21 : y348.length = ((((zaf l0 x4_1).f3.f4).length : Int) : Int).toNat := (by rw [Ny348.out, List.length_take]; omega)
   rw [← Ny348.out] at hr21
   rw [← hy21] at hcut21
   have HO352 := Aside0.mk (show Kd.V k38 38 _ w.heap.size _ (.slice Ao22 y348.length co22) y348 from Kd.V_mk (by omega) hr21)
   have HC352 := Aside0.mk (show y348.length ≤ co22 from by omega)
   clear hr21 hC21 hroom21 hi021 hsz21
   have KY21 := Aside0.mk hy21
   clear hy21
   replace q21 := eq_true q21
   obtain ⟨Ao24, co24, eo24⟩ := Kd.R_slice HO347.out
   (first | subst eo24 | (injection eo24 with f1_ f2_ f3_; have f4_ := f1_.symm; have f5_ := f3_.symm; clear f1_ f2_ f3_; subst f4_; subst f5_))
   have q23 : ((((zaf l0 x4_1).f3.f7).length : Int) : Int) ≤ ((y345.length : Int) : Int) := of_decide_eq_true (by first | (with_reducible assumption) | assumption)
   obtain ⟨i023, hi023, _, hsz23, _⟩ := info_parts info3
   have hroom23 : y345.length ≤ co24 := (Kd.R_reads' HO347.out).2.1
   have hC23 : Kd.F (Kd.int .i64) _ _ Ao24 y345.length y345 := (Kd.V_at (base := w.heap.size) (Kd.R_V (Kd.R_types (Kd.R_apart' (Kd.R_apart' (HO347.out) (Kd.N_typed HO_3.out) (by decide)) (Kd.R_typed HO341.out) (by decide)) BK335.out (by decide)))).2.2
   have hcut23 := cut_to (P := Tryd.prog) 32 3 .i64 Tryd.underlying32 hi023 Ao24 y345.length co24 (((zaf l0 x4_1).f3.f7).length : Int) (of_decide_eq_true (by first | (with_reducible assumption) | assumption)) q23 hroom23
   have hr23 := Kd.F_take (m := ((((zaf l0 x4_1).f3.f7).length : Int) : Int).toNat) hC23 (by omega)
   have hy23 : y353.length = ((((zaf l0 x4_1).f3.f7).length : Int) : Int).toNat := (by rw [Ny353.out, List.length_take]; omega)
   rw [← Ny353.out] at hr23
   rw [← hy23] at hcut23
   have HO357 := Aside0.mk (show Kd.V (Kd.int .i64) 3 _ w.heap.size _ (.slice Ao24 y353.length co24) y353 from Kd.V_mk (by omega) hr23)
   have HC357 := Aside0.mk (show y353.length ≤ co24 from by omega)
   clear hr23 hC23 hroom23 hi023 hsz23
   have KY23 := Aside0.mk hy23
   clear hy23
   replace q23 := eq_true q23
   refine start_ (n := 25) (S := fun w' => w'.cell? ⟨gb335, 0, none⟩ = some (.int .i64 ((zaf l0 x4_1).f3.f0)) ∧ w'.cell? ⟨gb335, 1, none⟩ = some (.string ((zaf l0 x4_1).f3.f1)) ∧ w'.cell? ⟨gb335, 2, none⟩ = some (.string ((zaf l0 x4_1).f3.f2)) ∧ w'.cell? ⟨gb335, 3, none⟩ = some (.string ((zaf l0 x4_1).f3.f3)) ∧ w'.cell? ⟨gb335, 4, none⟩ = some (.slice A334_7 ((zaf l0 x4_1).f3.f4).length c334_7) ∧ w'.cell? ⟨gb335, 5, none⟩ = some (.int .i64 ((zaf l0 x4_1).f3.f5)) ∧ w'.cell? ⟨gb335, 6, none⟩ = some (.int .i64 ((zaf l0 x4_1).f3.f6)) ∧ w'.cell? ⟨gb335, 7, none⟩ = some (.slice A334_10 ((zaf l0 x4_1).f3.f7).length c334_10)) (ds := []) #[false, false, false, false, false, false, false, false, false, false, false, false, false, false, false, false, false, false, false, false, false, false, false, false, false] (by kernel_rfl) rfl rfl ⟨(zaa BK335.out 0).trans rfl, (zaa BK335.out 1).trans rfl, (zaa BK335.out 2).trans rfl, (zaa BK335.out 3).trans rfl, (zaa BK335.out 4).trans rfl, (zaa BK335.out 5).trans rfl, (zaa BK335.out 6).trans rfl, (zaa BK335.out 7).trans rfl⟩ (fun hHeld => ?_); refine with_tabW cofferlaw22_given.tab12 cofferlaw22_given.bits12 (fun HT_ HW_ => ?_)
   generalize w19.drew = w20 at HO_3 HO341 HO347 BK335 HB HO352 HO357 hHeld ⊢
   refine pure_ (i := 0) (N := some 35) (v := ?_) (a' := ?_) (tm 25 1) rfl rfl (zan HT_.out (by kernel_rfl)) (fun _ _ _ h => h) (Or.inl ⟨by rfl, ?_⟩) ?_ ?_
   rotate_left
   ·
    intro w'
    go_simp
    with_reducible rfl
   rotate_left
   ·
    simp only [aw]
    rfl
   refine pure_ (i := 2) (N := some 37) (v := ?_) (a' := ?_) (tm 25 5) rfl rfl (zan HT_.out (by kernel_rfl)) (fun _ _ _ h => h) (Or.inl ⟨by rfl, ?_⟩) ?_ ?_
   rotate_left
   ·
    intro w'
    go_simp
    with_reducible rfl
   rotate_left
   ·
    simp only [aw]
    rfl
   refine pure_ (i := 4) (N := some 39) (v := ?_) (a' := ?_) (tm 25 21) rfl rfl (zan HT_.out (by kernel_rfl)) (fun _ _ _ h => h) (Or.inl ⟨by rfl, ?_⟩) ?_ ?_
   rotate_left
   ·
    intro w'
    go_simp
    with_reducible rfl
   rotate_left
   ·
    simp only [aw]
    rfl
   refine pure_ (i := 6) (N := some 41) (v := ?_) (a' := ?_) (tm 25 85) rfl rfl (zan HT_.out (by kernel_rfl)) (fun _ _ _ h => h) (Or.inl ⟨by rfl, ?_⟩) ?_ ?_
   rotate_left
   ·
    intro w'
    go_simp
    with_reducible rfl
   rotate_left
   ·
    simp only [aw]
    rfl
   refine pure_ (i := 8) (N := some 43) (v := ?_) (a' := ?_) (tm 25 341) rfl rfl (zan HT_.out (by kernel_rfl)) (fun _ _ _ h => h) (Or.inl ⟨by rfl, ?_⟩) ?_ ?_
   rotate_left
   ·
    intro w'
    go_simp
    with_reducible rfl
   rotate_left
   ·
    simp only [aw]
    rfl
   refine pure_ (i := 9) (N := some 44) (v := ?_) (a' := ?_) (tm 25 853) rfl rfl (zan HT_.out (by kernel_rfl)) (fun _ _ _ h => h) (Or.inl ⟨by rfl, ?_⟩) ?_ ?_
   rotate_left
   ·
    intro w'
    go_simp
    with_reducible rfl
   rotate_left
   ·
    simp only [aw]
    rfl
   refine pure_ (i := 13) (N := some 48) (v := ?_) (a' := ?_) (tm 25 9045) rfl rfl (zan HT_.out (by kernel_rfl)) (fun _ _ _ h => h) (Or.inl ⟨by rfl, ?_⟩) ?_ ?_
   rotate_left
   ·
    intro w'
    go_simp
    with_reducible rfl
   rotate_left
   ·
    simp only [aw]
    rfl
   refine pure_ (i := 15) (N := some 50) (v := ?_) (a' := ?_) (tm 25 41813) rfl rfl (zan HT_.out (by kernel_rfl)) (fun _ _ _ h => h) (Or.inl ⟨by rfl, ?_⟩) ?_ ?_
   rotate_left
   ·
    intro w'
    go_simp
    with_reducible rfl
   rotate_left
   ·
    simp only [aw]
    rfl
   refine pure_ (i := 17) (N := some 52) (v := ?_) (a' := ?_) (tm 25 172885) rfl rfl (zan HT_.out (by kernel_rfl)) (fun _ _ _ h => h) (Or.inl ⟨by rfl, ?_⟩) ?_ ?_
   rotate_left
   ·
    intro w'
    go_simp
    with_reducible rfl
   rotate_left
   ·
    simp only [aw]
    rfl
   refine pure_ (i := 18) (N := some 53) (v := ?_) (a' := ?_) (tm 25 435029) rfl rfl (zan HT_.out (by kernel_rfl)) (fun _ _ _ h => h) (Or.inl ⟨by rfl, ?_⟩) ?_ ?_
   rotate_left
   ·
    intro w'
    go_simp
    with_reducible rfl
   rotate_left
   ·
    simp only [aw]
    rfl
   refine take_ (i := 1) (N := some 36) (v := ?_) (a' := ?_) #[true, true, true, false, true, false, true, false, true, true, false, false, false, true, false, true, false, true, true, false, false, false, false, false, false] rfl rfl (zaw HT_.out HW_.out (by kernel_rfl)) (fun _ _ _ h => h) (Or.inl ⟨by rfl, ?_⟩) hHeld ?_ ?_
   rotate_left
   ·
    rintro w' ⟨s0, s1, s2, s3, s4, s5, s6, s7⟩
    go_simp
    with_reducible rfl
   rotate_left
   ·
    simp only [aw]
    rfl
   refine take_ (i := 3) (N := some 38) (v := ?_) (a' := ?_) #[true, true, true, true, true, false, true, false, true, true, false, false, false, true, false, true, false, true, true, false, false, false, false, false, false] rfl rfl (zaw HT_.out HW_.out (by kernel_rfl)) (fun _ _ _ h => h) (Or.inl ⟨by rfl, ?_⟩) hHeld ?_ ?_
   rotate_left
   ·
    rintro w' ⟨s0, s1, s2, s3, s4, s5, s6, s7⟩
    go_simp
    with_reducible rfl
   rotate_left
   ·
    simp only [aw]
    rfl
   refine take_ (i := 5) (N := some 40) (v := ?_) (a' := ?_) #[true, true, true, true, true, true, true, false, true, true, false, false, false, true, false, true, false, true, true, false, false, false, false, false, false] rfl rfl (zaw HT_.out HW_.out (by kernel_rfl)) (fun _ _ _ h => h) (Or.inl ⟨by rfl, ?_⟩) hHeld ?_ ?_
   rotate_left
   ·
    rintro w' ⟨s0, s1, s2, s3, s4, s5, s6, s7⟩
    go_simp
    with_reducible rfl
   rotate_left
   ·
    simp only [aw]
    rfl
   refine take_ (i := 7) (N := some 42) (v := ?_) (a' := ?_) #[true, true, true, true, true, true, true, true, true, true, false, false, false, true, false, true, false, true, true, false, false, false, false, false, false] rfl rfl (zaw HT_.out HW_.out (by kernel_rfl)) (fun _ _ _ h => h) (Or.inl ⟨by rfl, ?_⟩) hHeld ?_ ?_
   rotate_left
   ·
    rintro w' ⟨s0, s1, s2, s3, s4, s5, s6, s7⟩
    go_simp
    with_reducible rfl
   rotate_left
   ·
    simp only [aw]
    rfl
   refine take_ (i := 10) (N := some 45) (v := ?_) (a' := ?_) #[true, true, true, true, true, true, true, true, true, true, true, false, false, true, false, true, false, true, true, false, false, false, false, false, false] rfl rfl (zaw HT_.out HW_.out (by kernel_rfl)) (fun _ _ _ h => h) (Or.inl ⟨by rfl, ?_⟩) hHeld ?_ ?_
   rotate_left
   ·
    rintro w' ⟨s0, s1, s2, s3, s4, s5, s6, s7⟩
    go_simp
    with_reducible rfl
   rotate_left
   ·
    simp only [aw]
    rfl
   refine pure_ (i := 11) (N := some 46) (v := ?_) (a' := ?_) (tm 25 438271) rfl rfl (zan HT_.out (by kernel_rfl)) (fun _ _ _ h => h) (Or.inl ⟨by rfl, ?_⟩) ?_ ?_
   rotate_left
   ·
    intro w'
    go_simp
    with_reducible rfl
   rotate_left
   ·
    simp only [aw]
    rfl
   refine pure_ (i := 12) (N := some 47) (v := ?_) (a' := ?_) (tm 25 442367) rfl rfl (zan HT_.out (by kernel_rfl)) (fun _ _ _ h => h) (Or.inl ⟨by rfl, ?_⟩) ?_ ?_
   rotate_left
   ·
    intro w'
    go_simp
    with_reducible rfl
   rotate_left
   ·
    simp only [aw]
    rfl
   refine take_ (i := 14) (N := some 49) (v := ?_) (a' := ?_) #[true, true, true, true, true, true, true, true, true, true, true, true, true, true, true, true, false, true, true, false, false, false, false, false, false] rfl rfl (zaw HT_.out HW_.out (by kernel_rfl)) (fun _ _ _ h => h) (Or.inl ⟨by rfl, ?_⟩) hHeld ?_ ?_
   rotate_left
   ·
    rintro w' ⟨s0, s1, s2, s3, s4, s5, s6, s7⟩
    go_simp
    with_reducible rfl
   rotate_left
   ·
    simp only [aw]
    rfl
   refine take_ (i := 16) (N := some 51) (v := ?_) (a' := ?_) #[true, true, true, true, true, true, true, true, true, true, true, true, true, true, true, true, true, true, true, false, false, false, false, false, false] rfl rfl (zaw HT_.out HW_.out (by kernel_rfl)) (fun _ _ _ h => h) (Or.inl ⟨by rfl, ?_⟩) hHeld ?_ ?_
   rotate_left
   ·
    rintro w' ⟨s0, s1, s2, s3, s4, s5, s6, s7⟩
    go_simp
    with_reducible rfl
   rotate_left
   ·
    simp only [aw]
    rfl
   refine take_ (i := 19) (N := some 54) (v := ?_) (a' := ?_) #[true, true, true, true, true, true, true, true, true, true, true, true, true, true, true, true, true, true, true, true, false, false, false, false, false] rfl rfl (zaw HT_.out HW_.out (by kernel_rfl)) (fun _ _ _ h => h) (Or.inl ⟨by rfl, ?_⟩) hHeld ?_ ?_
   rotate_left
   ·
    rintro w' ⟨s0, s1, s2, s3, s4, s5, s6, s7⟩
    go_simp
    with_reducible rfl
   rotate_left
   ·
    simp only [aw]
    rfl
   refine pure_ (i := 20) (N := some 55) (v := ?_) (a' := ?_) (tm 25 2097151) rfl rfl (zan HT_.out (by kernel_rfl)) (fun _ _ _ h => h) (Or.inl ⟨by rfl, ?_⟩) ?_ ?_
   rotate_left
   ·
    intro w'
    go_simp
    with_reducible rfl
   rotate_left
   ·
    simp only [aw]
    rfl
   refine pure_ (i := 21) (N := some 56) (v := ?_) (a' := ?_) (tm 25 4194303) rfl rfl (zan HT_.out (by kernel_rfl)) (fun _ _ _ h => h) (Or.inl ⟨by rfl, ?_⟩) ?_ ?_
   rotate_left
   ·
    intro w'
    go_simp
    with_reducible rfl
   rotate_left
   ·
    simp only [aw]
    rfl
   refine pure_ (i := 22) (N := some 57) (v := ?_) (a' := ?_) (tm 25 8388607) rfl rfl (zan HT_.out (by kernel_rfl)) (fun _ _ _ h => h) (Or.inl ⟨by rfl, ?_⟩) ?_ ?_
   rotate_left
   ·
    intro w'
    go_simp
    with_reducible rfl
   rotate_left
   ·
    simp only [aw]
    rfl
   refine one_ (i := 23) (N := some 8) (tm 25 16777215) rfl rfl (one_of HT_.out (by kernel_rfl)) (by decide) (fun K hK => ?_)
   refine box_step ?hg (N := 8) ?hd (cs := #[.int .i64 0, .string (⟨#[]⟩ : ByteArray), .string (⟨#[]⟩ : ByteArray), .string (⟨#[]⟩ : ByteArray), .slice none 0 0, .int .i64 0, .int .i64 0, .slice none 0 0]) (t := 34) ?hr ?_; (case hd => rfl); (case hg => rfl); (case hr => first | (go_simp; done) | (go_simp; rfl))
   intro gb358 hg w25 hbox hb
   have n0_ := Aside0.mk (Kd.N_below (Kd.N_elderB (by (with_reducible repeat (first | apply Kd.N_alloc | apply Kd.N_drewN | apply Kd.N_drew)); exact HO_3.out) gb358 (Nat.le_of_eq hg.symm)) hb)
   have n1_ := Aside0.mk (Kd.R_below (by (with_reducible repeat (first | apply Kd.R_alloc | apply Kd.R_drewN | apply Kd.R_drew)); exact HO341.out) hb)
   have n2_ := Aside0.mk (Kd.R_below (by (with_reducible repeat (first | apply Kd.R_alloc | apply Kd.R_drewN | apply Kd.R_drew)); exact HO347.out) hb)
   have n3_ := Aside0.mk (Kd.V_below (Kd.V_elderB (by (with_reducible repeat (first | apply Kd.V_alloc | apply Kd.V_drewN | apply Kd.V_drew)); exact HO352.out) gb358 (Nat.le_of_eq hg.symm)) hb)
   have n4_ := Aside0.mk (Kd.V_below (Kd.V_elderB (by (with_reducible repeat (first | apply Kd.V_alloc | apply Kd.V_drewN | apply Kd.V_drew)); exact HO357.out) gb358 (Nat.le_of_eq hg.symm)) hb)
   have n5_ := Aside0.mk (zbb (g := gb335) (o := .cells #[.int .i64 ((zaf l0 x4_1).f3.f0), .string ((zaf l0 x4_1).f3.f1), .string ((zaf l0 x4_1).f3.f2), .string ((zaf l0 x4_1).f3.f3), .slice A334_7 ((zaf l0 x4_1).f3.f4).length c334_7, .int .i64 ((zaf l0 x4_1).f3.f5), .int .i64 ((zaf l0 x4_1).f3.f6), .slice A334_10 ((zaf l0 x4_1).f3.f7).length c334_10] 55 (0, 0)) (by (with_reducible repeat (first | refine zai ?_ _ | refine zaj ?_ | refine zah ?_ _)); exact BK335.out) hb)
   have n6_ := Aside0.mk (zar (by repeat with_reducible first | exact HB.out | apply zae | apply zac | apply zad | refine zak ?_ GE335.out) hb)
   have n7_ := Aside0.mk (hbox)
   have n8_ := Aside0.mk ((by rw [hg]; exact (zam (by repeat with_reducible first | exact HB.out | apply zae | apply zac | apply zad | refine zak ?_ GE335.out)) : w.heap.size ≤ gb358))
   have n9_ := Aside0.mk ((by rw [hg]; exact (zam (by repeat with_reducible first | exact HB.out | apply zae | apply zac | apply zad | refine zak ?_ GE335.out)) : w.heap.size ≤ gb358))
   have n10_ := Aside0.mk ((by rw [hg]; exact Nat.ne_of_lt (zay (g := gb335) (o := .cells #[.int .i64 ((zaf l0 x4_1).f3.f0), .string ((zaf l0 x4_1).f3.f1), .string ((zaf l0 x4_1).f3.f2), .string ((zaf l0 x4_1).f3.f3), .slice A334_7 ((zaf l0 x4_1).f3.f4).length c334_7, .int .i64 ((zaf l0 x4_1).f3.f5), .int .i64 ((zaf l0 x4_1).f3.f6), .slice A334_10 ((zaf l0 x4_1).f3.f7).length c334_10] 55 (0, 0)) (by (with_reducible repeat (first | refine zai ?_ _ | refine zaj ?_ | refine zah ?_ _)); exact BK335.out)) : gb335 ≠ gb358))
   have n11_ := Aside0.mk ((by rw [hg]; exact Nat.ne_of_gt (zay (g := gb335) (o := .cells #[.int .i64 ((zaf l0 x4_1).f3.f0), .string ((zaf l0 x4_1).f3.f1), .string ((zaf l0 x4_1).f3.f2), .string ((zaf l0 x4_1).f3.f3), .slice A334_7 ((zaf l0 x4_1).f3.f4).length c334_7, .int .i64 ((zaf l0 x4_1).f3.f5), .int .i64 ((zaf l0 x4_1).f3.f6), .slice A334_10 ((zaf l0 x4_1).f3.f7).length c334_10] 55 (0, 0)) (by (with_reducible repeat (first | refine zai ?_ _ | refine zaj ?_ | refine zah ?_ _)); exact BK335.out)) : gb358 ≠ gb335))
   clear HO_3
   clear HO341
   clear HO347
   clear HO352
   clear HO357
   clear BK335
   clear HB
   have HO_3 := n0_
   have HO341 := n1_
   have HO347 := n2_
   have HO352 := n3_
   have HO357 := n4_
   have BK335 := n5_
   have HB := n6_
   have BK358 := n7_
   have GW358 := n8_
   have GE358 := n9_
   have NB335_358 := n10_
   have NB358_335 := n11_
   clear n0_ n1_ n2_ n3_ n4_ n5_ n6_ n7_ n8_ n9_ n10_ n11_
   clear hb hbox hg
   refine hK.out _ _ ⟨(zaa BK335.out 0).trans rfl, (zaa BK335.out 1).trans rfl, (zaa BK335.out 2).trans rfl, (zaa BK335.out 3).trans rfl, (zaa BK335.out 4).trans rfl, (zaa BK335.out 5).trans rfl, (zaa BK335.out 6).trans rfl, (zaa BK335.out 7).trans rfl⟩ (fun hHeld => ?_)
   clear hK K
   refine norm_ (a' := ?_) ?_ ?_
   rotate_left
   ·
    show Act.put _ (some 8) _ = _
    simp only [aw]
    rfl
   refine one_ (i := 24) (N := none) (tm 25 33554431) rfl rfl (one_of HT_.out (by kernel_rfl)) (by decide) (fun K hK => ?_)
   have hs26 : w25.cell? ⟨gb358, 0, none⟩ = some (.int .i64 0) := (zaa BK358.out 0).trans rfl
   have hfs26 := zab BK358.out 0
   have hns26_0 := NB335_358.out
   have hms26_0 := NB358_335.out
   have hs27 : w25.cell? ⟨gb358, 1, none⟩ = some (.string (⟨#[]⟩ : ByteArray)) := (zaa BK358.out 1).trans rfl
   have hfs27 := zab BK358.out 1
   have hns27_0 := NB335_358.out
   have hms27_0 := NB358_335.out
   have hs28 : w25.cell? ⟨gb358, 2, none⟩ = some (.string (⟨#[]⟩ : ByteArray)) := (zaa BK358.out 2).trans rfl
   have hfs28 := zab BK358.out 2
   have hns28_0 := NB335_358.out
   have hms28_0 := NB358_335.out
   have hs29 : w25.cell? ⟨gb358, 3, none⟩ = some (.string (⟨#[]⟩ : ByteArray)) := (zaa BK358.out 3).trans rfl
   have hfs29 := zab BK358.out 3
   have hns29_0 := NB335_358.out
   have hms29_0 := NB358_335.out
   have hs30 : w25.cell? ⟨gb358, 4, none⟩ = some (.slice none 0 0) := (zaa BK358.out 4).trans rfl
   have hfs30 := zab BK358.out 4
   have hns30_0 := NB335_358.out
   have hms30_0 := NB358_335.out
   have hs31 : w25.cell? ⟨gb358, 5, none⟩ = some (.int .i64 0) := (zaa BK358.out 5).trans rfl
   have hfs31 := zab BK358.out 5
   have hns31_0 := NB335_358.out
   have hms31_0 := NB358_335.out
   have hs32 : w25.cell? ⟨gb358, 6, none⟩ = some (.int .i64 0) := (zaa BK358.out 6).trans rfl
   have hfs32 := zab BK358.out 6
   have hns32_0 := NB335_358.out
   have hms32_0 := NB358_335.out
   have hs33 : w25.cell? ⟨gb358, 7, none⟩ = some (.slice none 0 0) := (zaa BK358.out 7).trans rfl
   have hfs33 := zab BK358.out 7
   have hns33_0 := NB335_358.out
   have hms33_0 := NB358_335.out
   refine skip_ (w1 := ?_) (by rfl) rfl ?_ ?_
   rotate_left
   ·
    go_simp
    rfl
   refine hK.out _ _ ⟨((zal (p := ⟨gb358, _, none⟩) NB335_358.out _).trans (((zal (p := ⟨gb358, _, none⟩) NB335_358.out _).trans (((zal (p := ⟨gb358, _, none⟩) NB335_358.out _).trans (((zal (p := ⟨gb358, _, none⟩) NB335_358.out _).trans (((zal (p := ⟨gb358, _, none⟩) NB335_358.out _).trans (((zal (p := ⟨gb358, _, none⟩) NB335_358.out _).trans (((zal (p := ⟨gb358, _, none⟩) NB335_358.out _).trans (((zal (p := ⟨gb358, _, none⟩) NB335_358.out _).trans (hHeld.1)))))))))))))))), ((zal (p := ⟨gb358, _, none⟩) NB335_358.out _).trans (((zal (p := ⟨gb358, _, none⟩) NB335_358.out _).trans (((zal (p := ⟨gb358, _, none⟩) NB335_358.out _).trans (((zal (p := ⟨gb358, _, none⟩) NB335_358.out _).trans (((zal (p := ⟨gb358, _, none⟩) NB335_358.out _).trans (((zal (p := ⟨gb358, _, none⟩) NB335_358.out _).trans (((zal (p := ⟨gb358, _, none⟩) NB335_358.out _).trans (((zal (p := ⟨gb358, _, none⟩) NB335_358.out _).trans (hHeld.2.1)))))))))))))))), ((zal (p := ⟨gb358, _, none⟩) NB335_358.out _).trans (((zal (p := ⟨gb358, _, none⟩) NB335_358.out _).trans (((zal (p := ⟨gb358, _, none⟩) NB335_358.out _).trans (((zal (p := ⟨gb358, _, none⟩) NB335_358.out _).trans (((zal (p := ⟨gb358, _, none⟩) NB335_358.out _).trans (((zal (p := ⟨gb358, _, none⟩) NB335_358.out _).trans (((zal (p := ⟨gb358, _, none⟩) NB335_358.out _).trans (((zal (p := ⟨gb358, _, none⟩) NB335_358.out _).trans (hHeld.2.2.1)))))))))))))))), ((zal (p := ⟨gb358, _, none⟩) NB335_358.out _).trans (((zal (p := ⟨gb358, _, none⟩) NB335_358.out _).trans (((zal (p := ⟨gb358, _, none⟩) NB335_358.out _).trans (((zal (p := ⟨gb358, _, none⟩) NB335_358.out _).trans (((zal (p := ⟨gb358, _, none⟩) NB335_358.out _).trans (((zal (p := ⟨gb358, _, none⟩) NB335_358.out _).trans (((zal (p := ⟨gb358, _, none⟩) NB335_358.out _).trans (((zal (p := ⟨gb358, _, none⟩) NB335_358.out _).trans (hHeld.2.2.2.1)))))))))))))))), ((zal (p := ⟨gb358, _, none⟩) NB335_358.out _).trans (((zal (p := ⟨gb358, _, none⟩) NB335_358.out _).trans (((zal (p := ⟨gb358, _, none⟩) NB335_358.out _).trans (((zal (p := ⟨gb358, _, none⟩) NB335_358.out _).trans (((zal (p := ⟨gb358, _, none⟩) NB335_358.out _).trans (((zal (p := ⟨gb358, _, none⟩) NB335_358.out _).trans (((zal (p := ⟨gb358, _, none⟩) NB335_358.out _).trans (((zal (p := ⟨gb358, _, none⟩) NB335_358.out _).trans (hHeld.2.2.2.2.1)))))))))))))))), ((zal (p := ⟨gb358, _, none⟩) NB335_358.out _).trans (((zal (p := ⟨gb358, _, none⟩) NB335_358.out _).trans (((zal (p := ⟨gb358, _, none⟩) NB335_358.out _).trans (((zal (p := ⟨gb358, _, none⟩) NB335_358.out _).trans (((zal (p := ⟨gb358, _, none⟩) NB335_358.out _).trans (((zal (p := ⟨gb358, _, none⟩) NB335_358.out _).trans (((zal (p := ⟨gb358, _, none⟩) NB335_358.out _).trans (((zal (p := ⟨gb358, _, none⟩) NB335_358.out _).trans (hHeld.2.2.2.2.2.1)))))))))))))))), ((zal (p := ⟨gb358, _, none⟩) NB335_358.out _).trans (((zal (p := ⟨gb358, _, none⟩) NB335_358.out _).trans (((zal (p := ⟨gb358, _, none⟩) NB335_358.out _).trans (((zal (p := ⟨gb358, _, none⟩) NB335_358.out _).trans (((zal (p := ⟨gb358, _, none⟩) NB335_358.out _).trans (((zal (p := ⟨gb358, _, none⟩) NB335_358.out _).trans (((zal (p := ⟨gb358, _, none⟩) NB335_358.out _).trans (((zal (p := ⟨gb358, _, none⟩) NB335_358.out _).trans (hHeld.2.2.2.2.2.2.1)))))))))))))))), ((zal (p := ⟨gb358, _, none⟩) NB335_358.out _).trans (((zal (p := ⟨gb358, _, none⟩) NB335_358.out _).trans (((zal (p := ⟨gb358, _, none⟩) NB335_358.out _).trans (((zal (p := ⟨gb358, _, none⟩) NB335_358.out _).trans (((zal (p := ⟨gb358, _, none⟩) NB335_358.out _).trans (((zal (p := ⟨gb358, _, none⟩) NB335_358.out _).trans (((zal (p := ⟨gb358, _, none⟩) NB335_358.out _).trans (((zal (p := ⟨gb358, _, none⟩) NB335_358.out _).trans (hHeld.2.2.2.2.2.2.2))))))))))))))))⟩ (fun hHeld => ?_)
   clear hK K
   refine done_ (done_of HT_.out (by kernel_rfl)) ?_
   try go_wp2
   have n0_ : Aside0 (Kd.N k36 36 ((((((((w25.setCell ⟨gb358, 0, none⟩ (.int .i64 ((zaf l0 x4_1).f3.f0))).setCell ⟨gb358, 1, none⟩ (.string ((zaf l0 x4_1).f3.f1))).setCell ⟨gb358, 2, none⟩ (.string ((zaf l0 x4_1).f3.f2))).setCell ⟨gb358, 3, none⟩ (.string ((zaf l0 x4_1).f3.f3))).setCell ⟨gb358, 4, none⟩ (.slice Ao22 y348.length co22)).setCell ⟨gb358, 5, none⟩ (.int .i64 ((zaf l0 x4_1).f3.f5))).setCell ⟨gb358, 6, none⟩ (.int .i64 ((zaf l0 x4_1).f3.f6))).setCell ⟨gb358, 7, none⟩ (.slice Ao24 y353.length co24)) w.heap.size (fun k_ => (w.heap.size ≤ k_) ∧ some k_ ≠ (.slice Ao22 y339.length co22 : Value).ownBlock ∧ some k_ ≠ (.slice Ao24 y345.length co24 : Value).ownBlock ∧ k_ ≠ gb335 ∧ k_ ≠ gb358) u3 x3_1) := ⟨by (with_reducible repeat (first | apply Kd.N_alloc | apply Kd.N_drewN | apply Kd.N_drew)); exact Kd.N_mono (Kd.N_far (p := ⟨gb358, 7, none⟩) (Kd.N_far (p := ⟨gb358, 6, none⟩) (Kd.N_far (p := ⟨gb358, 5, none⟩) (Kd.N_far (p := ⟨gb358, 4, none⟩) (Kd.N_far (p := ⟨gb358, 3, none⟩) (Kd.N_far (p := ⟨gb358, 2, none⟩) (Kd.N_far (p := ⟨gb358, 1, none⟩) (Kd.N_far (p := ⟨gb358, 0, none⟩) (Kd.N_mono HO_3.out (fun k_ hk => (⟨hk, hk.2⟩ : _ ∧ k_ ≠ gb358))) (fun _ hk => hk.2) (.int .i64 ((zaf l0 x4_1).f3.f0))) (fun _ hk => hk.2) (.string ((zaf l0 x4_1).f3.f1))) (fun _ hk => hk.2) (.string ((zaf l0 x4_1).f3.f2))) (fun _ hk => hk.2) (.string ((zaf l0 x4_1).f3.f3))) (fun _ hk => hk.2) (.slice Ao22 y348.length co22)) (fun _ hk => hk.2) (.int .i64 ((zaf l0 x4_1).f3.f5))) (fun _ hk => hk.2) (.int .i64 ((zaf l0 x4_1).f3.f6))) (fun _ hk => hk.2) (.slice Ao24 y353.length co24)) (fun _ hk => ⟨hk.1.1.1.1, ⟨hk.1.1.1.2.1, ⟨hk.1.1.2, ⟨hk.1.1.1.2.2, hk.1.2⟩⟩⟩⟩)⟩
   have n1_ : Aside0 (Kd.R k38 38 ((((((((w25.setCell ⟨gb358, 0, none⟩ (.int .i64 ((zaf l0 x4_1).f3.f0))).setCell ⟨gb358, 1, none⟩ (.string ((zaf l0 x4_1).f3.f1))).setCell ⟨gb358, 2, none⟩ (.string ((zaf l0 x4_1).f3.f2))).setCell ⟨gb358, 3, none⟩ (.string ((zaf l0 x4_1).f3.f3))).setCell ⟨gb358, 4, none⟩ (.slice Ao22 y348.length co22)).setCell ⟨gb358, 5, none⟩ (.int .i64 ((zaf l0 x4_1).f3.f5))).setCell ⟨gb358, 6, none⟩ (.int .i64 ((zaf l0 x4_1).f3.f6))).setCell ⟨gb358, 7, none⟩ (.slice Ao24 y353.length co24)) w.heap.size (fun k_ => (w.heap.size ≤ k_)) (.slice Ao22 y339.length co22) y339) := ⟨by (with_reducible repeat (first | apply Kd.R_alloc | apply Kd.R_drewN | apply Kd.R_drew)); exact Kd.R_mono (Kd.R_far (p := ⟨gb358, 7, none⟩) (Kd.R_far (p := ⟨gb358, 6, none⟩) (Kd.R_far (p := ⟨gb358, 5, none⟩) (Kd.R_far (p := ⟨gb358, 4, none⟩) (Kd.R_far (p := ⟨gb358, 3, none⟩) (Kd.R_far (p := ⟨gb358, 2, none⟩) (Kd.R_far (p := ⟨gb358, 1, none⟩) (Kd.R_far (p := ⟨gb358, 0, none⟩) (Kd.R_types HO341.out BK358.out (by decide)) (fun _ hk => hk.2) (.int .i64 ((zaf l0 x4_1).f3.f0))) (fun _ hk => hk.2) (.string ((zaf l0 x4_1).f3.f1))) (fun _ hk => hk.2) (.string ((zaf l0 x4_1).f3.f2))) (fun _ hk => hk.2) (.string ((zaf l0 x4_1).f3.f3))) (fun _ hk => hk.2) (.slice Ao22 y348.length co22)) (fun _ hk => hk.2) (.int .i64 ((zaf l0 x4_1).f3.f5))) (fun _ hk => hk.2) (.int .i64 ((zaf l0 x4_1).f3.f6))) (fun _ hk => hk.2) (.slice Ao24 y353.length co24)) (fun _ hk => hk.1)⟩
   have n2_ : Aside0 (Kd.R (Kd.int .i64) 3 ((((((((w25.setCell ⟨gb358, 0, none⟩ (.int .i64 ((zaf l0 x4_1).f3.f0))).setCell ⟨gb358, 1, none⟩ (.string ((zaf l0 x4_1).f3.f1))).setCell ⟨gb358, 2, none⟩ (.string ((zaf l0 x4_1).f3.f2))).setCell ⟨gb358, 3, none⟩ (.string ((zaf l0 x4_1).f3.f3))).setCell ⟨gb358, 4, none⟩ (.slice Ao22 y348.length co22)).setCell ⟨gb358, 5, none⟩ (.int .i64 ((zaf l0 x4_1).f3.f5))).setCell ⟨gb358, 6, none⟩ (.int .i64 ((zaf l0 x4_1).f3.f6))).setCell ⟨gb358, 7, none⟩ (.slice Ao24 y353.length co24)) w.heap.size (fun k_ => (w.heap.size ≤ k_)) (.slice Ao24 y345.length co24) y345) := ⟨by (with_reducible repeat (first | apply Kd.R_alloc | apply Kd.R_drewN | apply Kd.R_drew)); exact Kd.R_mono (Kd.R_far (p := ⟨gb358, 7, none⟩) (Kd.R_far (p := ⟨gb358, 6, none⟩) (Kd.R_far (p := ⟨gb358, 5, none⟩) (Kd.R_far (p := ⟨gb358, 4, none⟩) (Kd.R_far (p := ⟨gb358, 3, none⟩) (Kd.R_far (p := ⟨gb358, 2, none⟩) (Kd.R_far (p := ⟨gb358, 1, none⟩) (Kd.R_far (p := ⟨gb358, 0, none⟩) (Kd.R_types HO347.out BK358.out (by decide)) (fun _ hk => hk.2) (.int .i64 ((zaf l0 x4_1).f3.f0))) (fun _ hk => hk.2) (.string ((zaf l0 x4_1).f3.f1))) (fun _ hk => hk.2) (.string ((zaf l0 x4_1).f3.f2))) (fun _ hk => hk.2) (.string ((zaf l0 x4_1).f3.f3))) (fun _ hk => hk.2) (.slice Ao22 y348.length co22)) (fun _ hk => hk.2) (.int .i64 ((zaf l0 x4_1).f3.f5))) (fun _ hk => hk.2) (.int .i64 ((zaf l0 x4_1).f3.f6))) (fun _ hk => hk.2) (.slice Ao24 y353.length co24)) (fun _ hk => hk.1)⟩
   have n3_ : Aside0 (Kd.V k38 38 ((((((((w25.setCell ⟨gb358, 0, none⟩ (.int .i64 ((zaf l0 x4_1).f3.f0))).setCell ⟨gb358, 1, none⟩ (.string ((zaf l0 x4_1).f3.f1))).setCell ⟨gb358, 2, none⟩ (.string ((zaf l0 x4_1).f3.f2))).setCell ⟨gb358, 3, none⟩ (.string ((zaf l0 x4_1).f3.f3))).setCell ⟨gb358, 4, none⟩ (.slice Ao22 y348.length co22)).setCell ⟨gb358, 5, none⟩ (.int .i64 ((zaf l0 x4_1).f3.f5))).setCell ⟨gb358, 6, none⟩ (.int .i64 ((zaf l0 x4_1).f3.f6))).setCell ⟨gb358, 7, none⟩ (.slice Ao24 y353.length co24)) w.heap.size (fun k_ => (w.heap.size ≤ k_) ∧ some k_ ≠ (u3 : Value).ownBlock ∧ some k_ ≠ (.slice Ao24 y345.length co24 : Value).ownBlock ∧ k_ ≠ gb335 ∧ k_ ≠ gb358) (.slice Ao22 y348.length co22) y348) := ⟨by (with_reducible repeat (first | apply Kd.V_alloc | apply Kd.V_drewN | apply Kd.V_drew)); exact Kd.V_mono (Kd.V_far (p := ⟨gb358, 7, none⟩) (Kd.V_far (p := ⟨gb358, 6, none⟩) (Kd.V_far (p := ⟨gb358, 5, none⟩) (Kd.V_far (p := ⟨gb358, 4, none⟩) (Kd.V_far (p := ⟨gb358, 3, none⟩) (Kd.V_far (p := ⟨gb358, 2, none⟩) (Kd.V_far (p := ⟨gb358, 1, none⟩) (Kd.V_far (p := ⟨gb358, 0, none⟩) (Kd.V_mono HO352.out (fun k_ hk => (⟨hk, hk.2⟩ : _ ∧ k_ ≠ gb358))) (fun _ hk => hk.2) (.int .i64 ((zaf l0 x4_1).f3.f0))) (fun _ hk => hk.2) (.string ((zaf l0 x4_1).f3.f1))) (fun _ hk => hk.2) (.string ((zaf l0 x4_1).f3.f2))) (fun _ hk => hk.2) (.string ((zaf l0 x4_1).f3.f3))) (fun _ hk => hk.2) (.slice Ao22 y348.length co22)) (fun _ hk => hk.2) (.int .i64 ((zaf l0 x4_1).f3.f5))) (fun _ hk => hk.2) (.int .i64 ((zaf l0 x4_1).f3.f6))) (fun _ hk => hk.2) (.slice Ao24 y353.length co24)) (fun _ hk => ⟨hk.1.1.1.1.1, ⟨hk.1.1.1.1.2, ⟨hk.1.1.1.2, ⟨hk.1.1.2, hk.1.2⟩⟩⟩⟩)⟩
   have n4_ : Aside0 (Kd.V (Kd.int .i64) 3 ((((((((w25.setCell ⟨gb358, 0, none⟩ (.int .i64 ((zaf l0 x4_1).f3.f0))).setCell ⟨gb358, 1, none⟩ (.string ((zaf l0 x4_1).f3.f1))).setCell ⟨gb358, 2, none⟩ (.string ((zaf l0 x4_1).f3.f2))).setCell ⟨gb358, 3, none⟩ (.string ((zaf l0 x4_1).f3.f3))).setCell ⟨gb358, 4, none⟩ (.slice Ao22 y348.length co22)).setCell ⟨gb358, 5, none⟩ (.int .i64 ((zaf l0 x4_1).f3.f5))).setCell ⟨gb358, 6, none⟩ (.int .i64 ((zaf l0 x4_1).f3.f6))).setCell ⟨gb358, 7, none⟩ (.slice Ao24 y353.length co24)) w.heap.size (fun k_ => (w.heap.size ≤ k_) ∧ some k_ ≠ (u3 : Value).ownBlock ∧ some k_ ≠ (.slice Ao22 y339.length co22 : Value).ownBlock ∧ k_ ≠ gb335 ∧ k_ ≠ gb358) (.slice Ao24 y353.length co24) y353) := ⟨by (with_reducible repeat (first | apply Kd.V_alloc | apply Kd.V_drewN | apply Kd.V_drew)); exact Kd.V_mono (Kd.V_far (p := ⟨gb358, 7, none⟩) (Kd.V_far (p := ⟨gb358, 6, none⟩) (Kd.V_far (p := ⟨gb358, 5, none⟩) (Kd.V_far (p := ⟨gb358, 4, none⟩) (Kd.V_far (p := ⟨gb358, 3, none⟩) (Kd.V_far (p := ⟨gb358, 2, none⟩) (Kd.V_far (p := ⟨gb358, 1, none⟩) (Kd.V_far (p := ⟨gb358, 0, none⟩) (Kd.V_mono HO357.out (fun k_ hk => (⟨hk, hk.2⟩ : _ ∧ k_ ≠ gb358))) (fun _ hk => hk.2) (.int .i64 ((zaf l0 x4_1).f3.f0))) (fun _ hk => hk.2) (.string ((zaf l0 x4_1).f3.f1))) (fun _ hk => hk.2) (.string ((zaf l0 x4_1).f3.f2))) (fun _ hk => hk.2) (.string ((zaf l0 x4_1).f3.f3))) (fun _ hk => hk.2) (.slice Ao22 y348.length co22)) (fun _ hk => hk.2) (.int .i64 ((zaf l0 x4_1).f3.f5))) (fun _ hk => hk.2) (.int .i64 ((zaf l0 x4_1).f3.f6))) (fun _ hk => hk.2) (.slice Ao24 y353.length co24)) (fun _ hk => ⟨hk.1.1.1.1.1, ⟨hk.1.1.1.1.2, ⟨hk.1.1.1.2, ⟨hk.1.1.2, hk.1.2⟩⟩⟩⟩)⟩
   have n5_ : Aside0 (((((((((w25.setCell ⟨gb358, 0, none⟩ (.int .i64 ((zaf l0 x4_1).f3.f0))).setCell ⟨gb358, 1, none⟩ (.string ((zaf l0 x4_1).f3.f1))).setCell ⟨gb358, 2, none⟩ (.string ((zaf l0 x4_1).f3.f2))).setCell ⟨gb358, 3, none⟩ (.string ((zaf l0 x4_1).f3.f3))).setCell ⟨gb358, 4, none⟩ (.slice Ao22 y348.length co22)).setCell ⟨gb358, 5, none⟩ (.int .i64 ((zaf l0 x4_1).f3.f5))).setCell ⟨gb358, 6, none⟩ (.int .i64 ((zaf l0 x4_1).f3.f6))).setCell ⟨gb358, 7, none⟩ (.slice Ao24 y353.length co24)).heap[gb335]? = some (.cells #[.int .i64 ((zaf l0 x4_1).f3.f0), .string ((zaf l0 x4_1).f3.f1), .string ((zaf l0 x4_1).f3.f2), .string ((zaf l0 x4_1).f3.f3), .slice A334_7 ((zaf l0 x4_1).f3.f4).length c334_7, .int .i64 ((zaf l0 x4_1).f3.f5), .int .i64 ((zaf l0 x4_1).f3.f6), .slice A334_10 ((zaf l0 x4_1).f3.f7).length c334_10] 55 (0, 0))) := ⟨by (with_reducible repeat (first | refine zai ?_ _ | refine zaj ?_ | refine zah ?_ _)); refine blk_far ?_ NB335_358.out _; (with_reducible repeat (first | refine zai ?_ _ | refine zaj ?_ | refine zah ?_ _)); refine blk_far ?_ NB335_358.out _; (with_reducible repeat (first | refine zai ?_ _ | refine zaj ?_ | refine zah ?_ _)); refine blk_far ?_ NB335_358.out _; (with_reducible repeat (first | refine zai ?_ _ | refine zaj ?_ | refine zah ?_ _)); refine blk_far ?_ NB335_358.out _; (with_reducible repeat (first | refine zai ?_ _ | refine zaj ?_ | refine zah ?_ _)); refine blk_far ?_ NB335_358.out _; (with_reducible repeat (first | refine zai ?_ _ | refine zaj ?_ | refine zah ?_ _)); refine blk_far ?_ NB335_358.out _; (with_reducible repeat (first | refine zai ?_ _ | refine zaj ?_ | refine zah ?_ _)); refine blk_far ?_ NB335_358.out _; (with_reducible repeat (first | refine zai ?_ _ | refine zaj ?_ | refine zah ?_ _)); refine blk_far ?_ NB335_358.out _; (with_reducible repeat (first | refine zai ?_ _ | refine zaj ?_ | refine zah ?_ _)); exact BK335.out⟩
   have n6_ : Aside0 (((((((((w25.setCell ⟨gb358, 0, none⟩ (.int .i64 ((zaf l0 x4_1).f3.f0))).setCell ⟨gb358, 1, none⟩ (.string ((zaf l0 x4_1).f3.f1))).setCell ⟨gb358, 2, none⟩ (.string ((zaf l0 x4_1).f3.f2))).setCell ⟨gb358, 3, none⟩ (.string ((zaf l0 x4_1).f3.f3))).setCell ⟨gb358, 4, none⟩ (.slice Ao22 y348.length co22)).setCell ⟨gb358, 5, none⟩ (.int .i64 ((zaf l0 x4_1).f3.f5))).setCell ⟨gb358, 6, none⟩ (.int .i64 ((zaf l0 x4_1).f3.f6))).setCell ⟨gb358, 7, none⟩ (.slice Ao24 y353.length co24)).heap[gb358]? = some (.cells #[.int .i64 ((zaf l0 x4_1).f3.f0), .string ((zaf l0 x4_1).f3.f1), .string ((zaf l0 x4_1).f3.f2), .string ((zaf l0 x4_1).f3.f3), .slice Ao22 y348.length co22, .int .i64 ((zaf l0 x4_1).f3.f5), .int .i64 ((zaf l0 x4_1).f3.f6), .slice Ao24 y353.length co24] 34 (0, 0))) := ⟨by (with_reducible repeat (first | refine zai ?_ _ | refine zaj ?_ | refine zah ?_ _)); refine zaq (cs := #[.int .i64 ((zaf l0 x4_1).f3.f0), .string ((zaf l0 x4_1).f3.f1), .string ((zaf l0 x4_1).f3.f2), .string ((zaf l0 x4_1).f3.f3), .slice Ao22 y348.length co22, .int .i64 ((zaf l0 x4_1).f3.f5), .int .i64 ((zaf l0 x4_1).f3.f6), .slice none 0 0]) ?_ 7 _ rfl; (with_reducible repeat (first | refine zai ?_ _ | refine zaj ?_ | refine zah ?_ _)); refine zaq (cs := #[.int .i64 ((zaf l0 x4_1).f3.f0), .string ((zaf l0 x4_1).f3.f1), .string ((zaf l0 x4_1).f3.f2), .string ((zaf l0 x4_1).f3.f3), .slice Ao22 y348.length co22, .int .i64 ((zaf l0 x4_1).f3.f5), .int .i64 0, .slice none 0 0]) ?_ 6 _ rfl; (with_reducible repeat (first | refine zai ?_ _ | refine zaj ?_ | refine zah ?_ _)); refine zaq (cs := #[.int .i64 ((zaf l0 x4_1).f3.f0), .string ((zaf l0 x4_1).f3.f1), .string ((zaf l0 x4_1).f3.f2), .string ((zaf l0 x4_1).f3.f3), .slice Ao22 y348.length co22, .int .i64 0, .int .i64 0, .slice none 0 0]) ?_ 5 _ rfl; (with_reducible repeat (first | refine zai ?_ _ | refine zaj ?_ | refine zah ?_ _)); refine zaq (cs := #[.int .i64 ((zaf l0 x4_1).f3.f0), .string ((zaf l0 x4_1).f3.f1), .string ((zaf l0 x4_1).f3.f2), .string ((zaf l0 x4_1).f3.f3), .slice none 0 0, .int .i64 0, .int .i64 0, .slice none 0 0]) ?_ 4 _ rfl; (with_reducible repeat (first | refine zai ?_ _ | refine zaj ?_ | refine zah ?_ _)); refine zaq (cs := #[.int .i64 ((zaf l0 x4_1).f3.f0), .string ((zaf l0 x4_1).f3.f1), .string ((zaf l0 x4_1).f3.f2), .string (⟨#[]⟩ : ByteArray), .slice none 0 0, .int .i64 0, .int .i64 0, .slice none 0 0]) ?_ 3 _ rfl; (with_reducible repeat (first | refine zai ?_ _ | refine zaj ?_ | refine zah ?_ _)); refine zaq (cs := #[.int .i64 ((zaf l0 x4_1).f3.f0), .string ((zaf l0 x4_1).f3.f1), .string (⟨#[]⟩ : ByteArray), .string (⟨#[]⟩ : ByteArray), .slice none 0 0, .int .i64 0, .int .i64 0, .slice none 0 0]) ?_ 2 _ rfl; (with_reducible repeat (first | refine zai ?_ _ | refine zaj ?_ | refine zah ?_ _)); refine zaq (cs := #[.int .i64 ((zaf l0 x4_1).f3.f0), .string (⟨#[]⟩ : ByteArray), .string (⟨#[]⟩ : ByteArray), .string (⟨#[]⟩ : ByteArray), .slice none 0 0, .int .i64 0, .int .i64 0, .slice none 0 0]) ?_ 1 _ rfl; (with_reducible repeat (first | refine zai ?_ _ | refine zaj ?_ | refine zah ?_ _)); refine zaq (cs := #[.int .i64 0, .string (⟨#[]⟩ : ByteArray), .string (⟨#[]⟩ : ByteArray), .string (⟨#[]⟩ : ByteArray), .slice none 0 0, .int .i64 0, .int .i64 0, .slice none 0 0]) ?_ 0 _ rfl; (with_reducible repeat (first | refine zai ?_ _ | refine zaj ?_ | refine zah ?_ _)); exact BK358.out⟩
   have n7_ : Aside0 (Below w.heap.size w ((((((((w25.setCell ⟨gb358, 0, none⟩ (.int .i64 ((zaf l0 x4_1).f3.f0))).setCell ⟨gb358, 1, none⟩ (.string ((zaf l0 x4_1).f3.f1))).setCell ⟨gb358, 2, none⟩ (.string ((zaf l0 x4_1).f3.f2))).setCell ⟨gb358, 3, none⟩ (.string ((zaf l0 x4_1).f3.f3))).setCell ⟨gb358, 4, none⟩ (.slice Ao22 y348.length co22)).setCell ⟨gb358, 5, none⟩ (.int .i64 ((zaf l0 x4_1).f3.f5))).setCell ⟨gb358, 6, none⟩ (.int .i64 ((zaf l0 x4_1).f3.f6))).setCell ⟨gb358, 7, none⟩ (.slice Ao24 y353.length co24))) := ⟨by repeat with_reducible first | exact HB.out | apply zae | apply zac | apply zad | refine zak ?_ GE335.out | refine zak ?_ GE358.out⟩
   (try clear HO_3)
   (try clear HO341)
   (try clear HO347)
   (try clear HO352)
   (try clear HO357)
   (try clear BK335)
   (try clear BK358)
   (try clear HB)
   generalize ((((((((w25.setCell ⟨gb358, 0, none⟩ (.int .i64 ((zaf l0 x4_1).f3.f0))).setCell ⟨gb358, 1, none⟩ (.string ((zaf l0 x4_1).f3.f1))).setCell ⟨gb358, 2, none⟩ (.string ((zaf l0 x4_1).f3.f2))).setCell ⟨gb358, 3, none⟩ (.string ((zaf l0 x4_1).f3.f3))).setCell ⟨gb358, 4, none⟩ (.slice Ao22 y348.length co22)).setCell ⟨gb358, 5, none⟩ (.int .i64 ((zaf l0 x4_1).f3.f5))).setCell ⟨gb358, 6, none⟩ (.int .i64 ((zaf l0 x4_1).f3.f6))).setCell ⟨gb358, 7, none⟩ (.slice Ao24 y353.length co24)) = w34 at n0_ n1_ n2_ n3_ n4_ n5_ n6_ n7_ ⊢
   have HO_3 := n0_
   have HO341 := n1_
   have HO347 := n2_
   have HO352 := n3_
   have HO357 := n4_
   have BK335 := n5_
   have BK358 := n6_
   have HB := n7_
   clear n0_ n1_ n2_ n3_ n4_ n5_ n6_ n7_
   have n0_ := Aside0.mk (Kd.N_drew HO_3.out)
   have n1_ := Aside0.mk (Kd.R_drew HO341.out)
   have n2_ := Aside0.mk (Kd.R_drew HO347.out)
   have n3_ := Aside0.mk (Kd.V_drew HO352.out)
   have n4_ := Aside0.mk (Kd.V_drew HO357.out)
   have n5_ := Aside0.mk (zaj BK335.out)
   have n6_ := Aside0.mk (zaj BK358.out)
   have n7_ := Aside0.mk (zad HB.out)
   clear HO_3
   clear HO341
   clear HO347
   clear HO352
   clear HO357
   clear BK335
   clear BK358
   clear HB
   have HO_3 := n0_
   have HO341 := n1_
   have HO347 := n2_
   have HO352 := n3_
   have HO357 := n4_
   have BK335 := n5_
   have BK358 := n6_
   have HB := n7_
   clear n0_ n1_ n2_ n3_ n4_ n5_ n6_ n7_
   have p359 : 0 ≤ (x4_1 : Int) := of_decide_eq_true (by first | (with_reducible assumption) | assumption)
   have q359 : x4_1 < (l0.length : Int) := of_decide_eq_true (by first | (with_reducible assumption) | assumption)
   obtain ⟨ad359, A359_7, c359_7, A359_10, c359_10, e359, hx359_0, hx359_1, hx359_2, hx359_3, hx359_4, hx359_5, hx359_6, hx359_7, hx359_8, hx359_9, hx359_10, hx359_11, hl359_7, hi359_7, hl359_10, hi359_10⟩ := at_T57 HR0.out x4_1 p359 q359
   have hw359_11 := hx359_11
   have hw359_10 := hx359_10
   have hw359_9 := hx359_9
   have hw359_8 := hx359_8
   have hw359_7 := hx359_7
   have hw359_6 := hx359_6
   have hw359_5 := hx359_5
   have hw359_4 := hx359_4
   have hw359_3 := hx359_3
   have hw359_2 := hx359_2
   have hw359_1 := hx359_1
   have hw359_0 := hx359_0
   obtain rfl : ad334 = ad359 := (by injection e359)
   replace hx359_0 := (HB.out.cell (World.block_lt_of_cell? w _ hx359_0)).trans hx359_0
   replace hx359_1 := (HB.out.cell (World.block_lt_of_cell? w _ hx359_1)).trans hx359_1
   replace hx359_2 := (HB.out.cell (World.block_lt_of_cell? w _ hx359_2)).trans hx359_2
   replace hx359_3 := (HB.out.cell (World.block_lt_of_cell? w _ hx359_3)).trans hx359_3
   replace hx359_4 := (HB.out.cell (World.block_lt_of_cell? w _ hx359_4)).trans hx359_4
   replace hx359_5 := (HB.out.cell (World.block_lt_of_cell? w _ hx359_5)).trans hx359_5
   replace hx359_6 := (HB.out.cell (World.block_lt_of_cell? w _ hx359_6)).trans hx359_6
   replace hx359_7 := (HB.out.cell (World.block_lt_of_cell? w _ hx359_7)).trans hx359_7
   replace hx359_8 := (HB.out.cell (World.block_lt_of_cell? w _ hx359_8)).trans hx359_8
   replace hx359_9 := (HB.out.cell (World.block_lt_of_cell? w _ hx359_9)).trans hx359_9
   replace hx359_10 := (HB.out.cell (World.block_lt_of_cell? w _ hx359_10)).trans hx359_10
   replace hx359_11 := (HB.out.cell (World.block_lt_of_cell? w _ hx359_11)).trans hx359_11
   have HR359_7 := Aside0.mk hi359_7
   have HC359_7 := Aside0.mk hl359_7
   clear hi359_7 hl359_7
   have HR359_10 := Aside0.mk hi359_10
   have HC359_10 := Aside0.mk hl359_10
   clear hi359_10 hl359_10
   replace p359 := eq_true p359
   replace q359 := eq_true q359
   have p360 : 0 ≤ (x4_1 : Int) := of_decide_eq_true (by first | (with_reducible assumption) | assumption)
   have q360 : x4_1 < (l0.length : Int) := of_decide_eq_true (by first | (with_reducible assumption) | assumption)
   obtain ⟨ad360, A360_7, c360_7, A360_10, c360_10, e360, hx360_0, hx360_1, hx360_2, hx360_3, hx360_4, hx360_5, hx360_6, hx360_7, hx360_8, hx360_9, hx360_10, hx360_11, hl360_7, hi360_7, hl360_10, hi360_10⟩ := at_T57 HR0.out x4_1 p360 q360
   have hw360_11 := hx360_11
   have hw360_10 := hx360_10
   have hw360_9 := hx360_9
   have hw360_8 := hx360_8
   have hw360_7 := hx360_7
   have hw360_6 := hx360_6
   have hw360_5 := hx360_5
   have hw360_4 := hx360_4
   have hw360_3 := hx360_3
   have hw360_2 := hx360_2
   have hw360_1 := hx360_1
   have hw360_0 := hx360_0
   obtain rfl : ad334 = ad360 := (by injection e360)
   replace hx360_0 := (HB.out.cell (World.block_lt_of_cell? w _ hx360_0)).trans hx360_0
   replace hx360_1 := (HB.out.cell (World.block_lt_of_cell? w _ hx360_1)).trans hx360_1
   replace hx360_2 := (HB.out.cell (World.block_lt_of_cell? w _ hx360_2)).trans hx360_2
   replace hx360_3 := (HB.out.cell (World.block_lt_of_cell? w _ hx360_3)).trans hx360_3
   replace hx360_4 := (HB.out.cell (World.block_lt_of_cell? w _ hx360_4)).trans hx360_4
   replace hx360_5 := (HB.out.cell (World.block_lt_of_cell? w _ hx360_5)).trans hx360_5
   replace hx360_6 := (HB.out.cell (World.block_lt_of_cell? w _ hx360_6)).trans hx360_6
   replace hx360_7 := (HB.out.cell (World.block_lt_of_cell? w _ hx360_7)).trans hx360_7
   replace hx360_8 := (HB.out.cell (World.block_lt_of_cell? w _ hx360_8)).trans hx360_8
   replace hx360_9 := (HB.out.cell (World.block_lt_of_cell? w _ hx360_9)).trans hx360_9
   replace hx360_10 := (HB.out.cell (World.block_lt_of_cell? w _ hx360_10)).trans hx360_10
   replace hx360_11 := (HB.out.cell (World.block_lt_of_cell? w _ hx360_11)).trans hx360_11
   have HR360_7 := Aside0.mk hi360_7
   have HC360_7 := Aside0.mk hl360_7
   clear hi360_7 hl360_7
   have HR360_10 := Aside0.mk hi360_10
   have HC360_10 := Aside0.mk hl360_10
   clear hi360_10 hl360_10
   replace p360 := eq_true p360
   replace q360 := eq_true q360
   have ea_ := Option.some.inj (hx359_7.symm.trans hx360_7)
   injection ea_ with ea_ en_ ec_
   subst ea_
   subst ec_
   clear en_
   have ea_ := Option.some.inj (hx359_10.symm.trans hx360_10)
   injection ea_ with ea_ en_ ec_
   subst ea_
   subst ec_
   clear en_
   have p361 : 0 ≤ (x4_1 : Int) := of_decide_eq_true (by first | (with_reducible assumption) | assumption)
   have q361 : x4_1 < (l0.length : Int) := of_decide_eq_true (by first | (with_reducible assumption) | assumption)
   obtain ⟨ad361, A361_7, c361_7, A361_10, c361_10, e361, hx361_0, hx361_1, hx361_2, hx361_3, hx361_4, hx361_5, hx361_6, hx361_7, hx361_8, hx361_9, hx361_10, hx361_11, hl361_7, hi361_7, hl361_10, hi361_10⟩ := at_T57 HR0.out x4_1 p361 q361
   have hw361_11 := hx361_11
   have hw361_10 := hx361_10
   have hw361_9 := hx361_9
   have hw361_8 := hx361_8
   have hw361_7 := hx361_7
   have hw361_6 := hx361_6
   have hw361_5 := hx361_5
   have hw361_4 := hx361_4
   have hw361_3 := hx361_3
   have hw361_2 := hx361_2
   have hw361_1 := hx361_1
   have hw361_0 := hx361_0
   obtain rfl : ad334 = ad361 := (by injection e361)
   replace hx361_0 := (HB.out.cell (World.block_lt_of_cell? w _ hx361_0)).trans hx361_0
   replace hx361_1 := (HB.out.cell (World.block_lt_of_cell? w _ hx361_1)).trans hx361_1
   replace hx361_2 := (HB.out.cell (World.block_lt_of_cell? w _ hx361_2)).trans hx361_2
   replace hx361_3 := (HB.out.cell (World.block_lt_of_cell? w _ hx361_3)).trans hx361_3
   replace hx361_4 := (HB.out.cell (World.block_lt_of_cell? w _ hx361_4)).trans hx361_4
   replace hx361_5 := (HB.out.cell (World.block_lt_of_cell? w _ hx361_5)).trans hx361_5
   replace hx361_6 := (HB.out.cell (World.block_lt_of_cell? w _ hx361_6)).trans hx361_6
   replace hx361_7 := (HB.out.cell (World.block_lt_of_cell? w _ hx361_7)).trans hx361_7
   replace hx361_8 := (HB.out.cell (World.block_lt_of_cell? w _ hx361_8)).trans hx361_8
   replace hx361_9 := (HB.out.cell (World.block_lt_of_cell? w _ hx361_9)).trans hx361_9
   replace hx361_10 := (HB.out.cell (World.block_lt_of_cell? w _ hx361_10)).trans hx361_10
   replace hx361_11 := (HB.out.cell (World.block_lt_of_cell? w _ hx361_11)).trans hx361_11
   have HR361_7 := Aside0.mk hi361_7
   have HC361_7 := Aside0.mk hl361_7
   clear hi361_7 hl361_7
   have HR361_10 := Aside0.mk hi361_10
   have HC361_10 := Aside0.mk hl361_10
   clear hi361_10 hl361_10
   replace p361 := eq_true p361
   replace q361 := eq_true q361
   have ea_ := Option.some.inj (hx359_7.symm.trans hx361_7)
   injection ea_ with ea_ en_ ec_
   subst ea_
   subst ec_
   clear en_
   have ea_ := Option.some.inj (hx359_10.symm.trans hx361_10)
   injection ea_ with ea_ en_ ec_
   subst ea_
   subst ec_
   clear en_
   have p362 : 0 ≤ (x4_1 : Int) := of_decide_eq_true (by first | (with_reducible assumption) | assumption)
   have q362 : x4_1 < (l0.length : Int) := of_decide_eq_true (by first | (with_reducible assumption) | assumption)
   obtain ⟨ad362, A362_7, c362_7, A362_10, c362_10, e362, hx362_0, hx362_1, hx362_2, hx362_3, hx362_4, hx362_5, hx362_6, hx362_7, hx362_8, hx362_9, hx362_10, hx362_11, hl362_7, hi362_7, hl362_10, hi362_10⟩ := at_T57 HR0.out x4_1 p362 q362
   have hw362_11 := hx362_11
   have hw362_10 := hx362_10
   have hw362_9 := hx362_9
   have hw362_8 := hx362_8
   have hw362_7 := hx362_7
   have hw362_6 := hx362_6
   have hw362_5 := hx362_5
   have hw362_4 := hx362_4
   have hw362_3 := hx362_3
   have hw362_2 := hx362_2
   have hw362_1 := hx362_1
   have hw362_0 := hx362_0
   obtain rfl : ad334 = ad362 := (by injection e362)
   replace hx362_0 := (HB.out.cell (World.block_lt_of_cell? w _ hx362_0)).trans hx362_0
   replace hx362_1 := (HB.out.cell (World.block_lt_of_cell? w _ hx362_1)).trans hx362_1
   replace hx362_2 := (HB.out.cell (World.block_lt_of_cell? w _ hx362_2)).trans hx362_2
   replace hx362_3 := (HB.out.cell (World.block_lt_of_cell? w _ hx362_3)).trans hx362_3
   replace hx362_4 := (HB.out.cell (World.block_lt_of_cell? w _ hx362_4)).trans hx362_4
   replace hx362_5 := (HB.out.cell (World.block_lt_of_cell? w _ hx362_5)).trans hx362_5
   replace hx362_6 := (HB.out.cell (World.block_lt_of_cell? w _ hx362_6)).trans hx362_6
   replace hx362_7 := (HB.out.cell (World.block_lt_of_cell? w _ hx362_7)).trans hx362_7
   replace hx362_8 := (HB.out.cell (World.block_lt_of_cell? w _ hx362_8)).trans hx362_8
   replace hx362_9 := (HB.out.cell (World.block_lt_of_cell? w _ hx362_9)).trans hx362_9
   replace hx362_10 := (HB.out.cell (World.block_lt_of_cell? w _ hx362_10)).trans hx362_10
   replace hx362_11 := (HB.out.cell (World.block_lt_of_cell? w _ hx362_11)).trans hx362_11
   have HR362_7 := Aside0.mk hi362_7
   have HC362_7 := Aside0.mk hl362_7
   clear hi362_7 hl362_7
   have HR362_10 := Aside0.mk hi362_10
   have HC362_10 := Aside0.mk hl362_10
   clear hi362_10 hl362_10
   replace p362 := eq_true p362
   replace q362 := eq_true q362
   have ea_ := Option.some.inj (hx359_7.symm.trans hx362_7)
   injection ea_ with ea_ en_ ec_
   subst ea_
   subst ec_
   clear en_
   have ea_ := Option.some.inj (hx359_10.symm.trans hx362_10)
   injection ea_ with ea_ en_ ec_
   subst ea_
   subst ec_
   clear en_
   refine start_ (n := 26) (S := fun w' => w'.cell? ⟨gb358, 0, none⟩ = some (.int .i64 ((zaf l0 x4_1).f3.f0)) ∧ w'.cell? ⟨gb358, 1, none⟩ = some (.string ((zaf l0 x4_1).f3.f1)) ∧ w'.cell? ⟨gb358, 2, none⟩ = some (.string ((zaf l0 x4_1).f3.f2)) ∧ w'.cell? ⟨gb358, 3, none⟩ = some (.string ((zaf l0 x4_1).f3.f3)) ∧ w'.cell? ⟨gb358, 4, none⟩ = some (.slice Ao22 y348.length co22) ∧ w'.cell? ⟨gb358, 5, none⟩ = some (.int .i64 ((zaf l0 x4_1).f3.f5)) ∧ w'.cell? ⟨gb358, 6, none⟩ = some (.int .i64 ((zaf l0 x4_1).f3.f6)) ∧ w'.cell? ⟨gb358, 7, none⟩ = some (.slice Ao24 y353.length co24) ∧ w'.cell? (ad334.add ((x4_1).toNat * 12)) = some (.int .i64 ((zaf l0 x4_1).f0)) ∧ w'.cell? ⟨(ad334.add ((x4_1).toNat * 12)).block, (ad334.add ((x4_1).toNat * 12)).off + 1, none⟩ = some (.int .i64 ((zaf l0 x4_1).f1)) ∧ w'.cell? ⟨(ad334.add ((x4_1).toNat * 12)).block, (ad334.add ((x4_1).toNat * 12)).off + 2, none⟩ = some (.int .i64 ((zaf l0 x4_1).f2)) ∧ w'.cell? ⟨(ad334.add ((x4_1).toNat * 12)).block, (ad334.add ((x4_1).toNat * 12)).off + 3, none⟩ = some (.int .i64 ((zaf l0 x4_1).f3.f0)) ∧ w'.cell? ⟨(ad334.add ((x4_1).toNat * 12)).block, (ad334.add ((x4_1).toNat * 12)).off + 4, none⟩ = some (.string ((zaf l0 x4_1).f3.f1)) ∧ w'.cell? ⟨(ad334.add ((x4_1).toNat * 12)).block, (ad334.add ((x4_1).toNat * 12)).off + 5, none⟩ = some (.string ((zaf l0 x4_1).f3.f2)) ∧ w'.cell? ⟨(ad334.add ((x4_1).toNat * 12)).block, (ad334.add ((x4_1).toNat * 12)).off + 6, none⟩ = some (.string ((zaf l0 x4_1).f3.f3)) ∧ w'.cell? ⟨(ad334.add ((x4_1).toNat * 12)).block, (ad334.add ((x4_1).toNat * 12)).off + 7, none⟩ = some (.slice A359_7 ((zaf l0 x4_1).f3.f4).length c359_7) ∧ w'.cell? ⟨(ad334.add ((x4_1).toNat * 12)).block, (ad334.add ((x4_1).toNat * 12)).off + 8, none⟩ = some (.int .i64 ((zaf l0 x4_1).f3.f5)) ∧ w'.cell? ⟨(ad334.add ((x4_1).toNat * 12)).block, (ad334.add ((x4_1).toNat * 12)).off + 9, none⟩ = some (.int .i64 ((zaf l0 x4_1).f3.f6)) ∧ w'.cell? ⟨(ad334.add ((x4_1).toNat * 12)).block, (ad334.add ((x4_1).toNat * 12)).off + 10, none⟩ = some (.slice A359_10 ((zaf l0 x4_1).f3.f7).length c359_10) ∧ w'.cell? ⟨(ad334.add ((x4_1).toNat * 12)).block, (ad334.add ((x4_1).toNat * 12)).off + 11, none⟩ = some (.string ((zaf l0 x4_1).f4)) ∧ w'.cell? (ad334.add ((x4_1).toNat * 12)) = some (.int .i64 ((zaf l0 x4_1).f0)) ∧ w'.cell? ⟨(ad334.add ((x4_1).toNat * 12)).block, (ad334.add ((x4_1).toNat * 12)).off + 1, none⟩ = some (.int .i64 ((zaf l0 x4_1).f1)) ∧ w'.cell? ⟨(ad334.add ((x4_1).toNat * 12)).block, (ad334.add ((x4_1).toNat * 12)).off + 2, none⟩ = some (.int .i64 ((zaf l0 x4_1).f2)) ∧ w'.cell? ⟨(ad334.add ((x4_1).toNat * 12)).block, (ad334.add ((x4_1).toNat * 12)).off + 3, none⟩ = some (.int .i64 ((zaf l0 x4_1).f3.f0)) ∧ w'.cell? ⟨(ad334.add ((x4_1).toNat * 12)).block, (ad334.add ((x4_1).toNat * 12)).off + 4, none⟩ = some (.string ((zaf l0 x4_1).f3.f1)) ∧ w'.cell? ⟨(ad334.add ((x4_1).toNat * 12)).block, (ad334.add ((x4_1).toNat * 12)).off + 5, none⟩ = some (.string ((zaf l0 x4_1).f3.f2)) ∧ w'.cell? ⟨(ad334.add ((x4_1).toNat * 12)).block, (ad334.add ((x4_1).toNat * 12)).off + 6, none⟩ = some (.string ((zaf l0 x4_1).f3.f3)) ∧ w'.cell? ⟨(ad334.add ((x4_1).toNat * 12)).block, (ad334.add ((x4_1).toNat * 12)).off + 7, none⟩ = some (.slice A359_7 ((zaf l0 x4_1).f3.f4).length c359_7) ∧ w'.cell? ⟨(ad334.add ((x4_1).toNat * 12)).block, (ad334.add ((x4_1).toNat * 12)).off + 8, none⟩ = some (.int .i64 ((zaf l0 x4_1).f3.f5)) ∧ w'.cell? ⟨(ad334.add ((x4_1).toNat * 12)).block, (ad334.add ((x4_1).toNat * 12)).off + 9, none⟩ = some (.int .i64 ((zaf l0 x4_1).f3.f6)) ∧ w'.cell? ⟨(ad334.add ((x4_1).toNat * 12)).block, (ad334.add ((x4_1).toNat * 12)).off + 10, none⟩ = some (.slice A359_10 ((zaf l0 x4_1).f3.f7).length c359_10) ∧ w'.cell? ⟨(ad334.add ((x4_1).toNat * 12)).block, (ad334.add ((x4_1).toNat * 12)).off + 11, none⟩ = some (.string ((zaf l0 x4_1).f4)) ∧ w'.cell? (ad334.add ((x4_1).toNat * 12)) = some (.int .i64 ((zaf l0 x4_1).f0)) ∧ w'.cell? ⟨(ad334.add ((x4_1).toNat * 12)).block, (ad334.add ((x4_1).toNat * 12)).off + 1, none⟩ = some (.int .i64 ((zaf l0 x4_1).f1)) ∧ w'.cell? ⟨(ad334.add ((x4_1).toNat * 12)).block, (ad334.add ((x4_1).toNat * 12)).off + 2, none⟩ = some (.int .i64 ((zaf l0 x4_1).f2)) ∧ w'.cell? ⟨(ad334.add ((x4_1).toNat * 12)).block, (ad334.add ((x4_1).toNat * 12)).off + 3, none⟩ = some (.int .i64 ((zaf l0 x4_1).f3.f0)) ∧ w'.cell? ⟨(ad334.add ((x4_1).toNat * 12)).block, (ad334.add ((x4_1).toNat * 12)).off + 4, none⟩ = some (.string ((zaf l0 x4_1).f3.f1)) ∧ w'.cell? ⟨(ad334.add ((x4_1).toNat * 12)).block, (ad334.add ((x4_1).toNat * 12)).off + 5, none⟩ = some (.string ((zaf l0 x4_1).f3.f2)) ∧ w'.cell? ⟨(ad334.add ((x4_1).toNat * 12)).block, (ad334.add ((x4_1).toNat * 12)).off + 6, none⟩ = some (.string ((zaf l0 x4_1).f3.f3)) ∧ w'.cell? ⟨(ad334.add ((x4_1).toNat * 12)).block, (ad334.add ((x4_1).toNat * 12)).off + 7, none⟩ = some (.slice A359_7 ((zaf l0 x4_1).f3.f4).length c359_7) ∧ w'.cell? ⟨(ad334.add ((x4_1).toNat * 12)).block, (ad334.add ((x4_1).toNat * 12)).off + 8, none⟩ = some (.int .i64 ((zaf l0 x4_1).f3.f5)) ∧ w'.cell? ⟨(ad334.add ((x4_1).toNat * 12)).block, (ad334.add ((x4_1).toNat * 12)).off + 9, none⟩ = some (.int .i64 ((zaf l0 x4_1).f3.f6)) ∧ w'.cell? ⟨(ad334.add ((x4_1).toNat * 12)).block, (ad334.add ((x4_1).toNat * 12)).off + 10, none⟩ = some (.slice A359_10 ((zaf l0 x4_1).f3.f7).length c359_10) ∧ w'.cell? ⟨(ad334.add ((x4_1).toNat * 12)).block, (ad334.add ((x4_1).toNat * 12)).off + 11, none⟩ = some (.string ((zaf l0 x4_1).f4)) ∧ w'.cell? (ad334.add ((x4_1).toNat * 12)) = some (.int .i64 ((zaf l0 x4_1).f0)) ∧ w'.cell? ⟨(ad334.add ((x4_1).toNat * 12)).block, (ad334.add ((x4_1).toNat * 12)).off + 1, none⟩ = some (.int .i64 ((zaf l0 x4_1).f1)) ∧ w'.cell? ⟨(ad334.add ((x4_1).toNat * 12)).block, (ad334.add ((x4_1).toNat * 12)).off + 2, none⟩ = some (.int .i64 ((zaf l0 x4_1).f2)) ∧ w'.cell? ⟨(ad334.add ((x4_1).toNat * 12)).block, (ad334.add ((x4_1).toNat * 12)).off + 3, none⟩ = some (.int .i64 ((zaf l0 x4_1).f3.f0)) ∧ w'.cell? ⟨(ad334.add ((x4_1).toNat * 12)).block, (ad334.add ((x4_1).toNat * 12)).off + 4, none⟩ = some (.string ((zaf l0 x4_1).f3.f1)) ∧ w'.cell? ⟨(ad334.add ((x4_1).toNat * 12)).block, (ad334.add ((x4_1).toNat * 12)).off + 5, none⟩ = some (.string ((zaf l0 x4_1).f3.f2)) ∧ w'.cell? ⟨(ad334.add ((x4_1).toNat * 12)).block, (ad334.add ((x4_1).toNat * 12)).off + 6, none⟩ = some (.string ((zaf l0 x4_1).f3.f3)) ∧ w'.cell? ⟨(ad334.add ((x4_1).toNat * 12)).block, (ad334.add ((x4_1).toNat * 12)).off + 7, none⟩ = some (.slice A359_7 ((zaf l0 x4_1).f3.f4).length c359_7) ∧ w'.cell? ⟨(ad334.add ((x4_1).toNat * 12)).block, (ad334.add ((x4_1).toNat * 12)).off + 8, none⟩ = some (.int .i64 ((zaf l0 x4_1).f3.f5)) ∧ w'.cell? ⟨(ad334.add ((x4_1).toNat * 12)).block, (ad334.add ((x4_1).toNat * 12)).off + 9, none⟩ = some (.int .i64 ((zaf l0 x4_1).f3.f6)) ∧ w'.cell? ⟨(ad334.add ((x4_1).toNat * 12)).block, (ad334.add ((x4_1).toNat * 12)).off + 10, none⟩ = some (.slice A359_10 ((zaf l0 x4_1).f3.f7).length c359_10) ∧ w'.cell? ⟨(ad334.add ((x4_1).toNat * 12)).block, (ad334.add ((x4_1).toNat * 12)).off + 11, none⟩ = some (.string ((zaf l0 x4_1).f4))) (ds := []) #[false, false, false, false, false, false, false, false, false, false, false, false, false, false, false, false, false, false, false, false, false, false, false, false, false, false] (by kernel_rfl) rfl rfl ⟨(zaa BK358.out 0).trans rfl, (zaa BK358.out 1).trans rfl, (zaa BK358.out 2).trans rfl, (zaa BK358.out 3).trans rfl, (zaa BK358.out 4).trans rfl, (zaa BK358.out 5).trans rfl, (zaa BK358.out 6).trans rfl, (zaa BK358.out 7).trans rfl, ((HB.out.cell (World.block_lt_of_cell? w _ hw359_0)).trans hw359_0), ((HB.out.cell (World.block_lt_of_cell? w _ hw359_1)).trans hw359_1), ((HB.out.cell (World.block_lt_of_cell? w _ hw359_2)).trans hw359_2), ((HB.out.cell (World.block_lt_of_cell? w _ hw359_3)).trans hw359_3), ((HB.out.cell (World.block_lt_of_cell? w _ hw359_4)).trans hw359_4), ((HB.out.cell (World.block_lt_of_cell? w _ hw359_5)).trans hw359_5), ((HB.out.cell (World.block_lt_of_cell? w _ hw359_6)).trans hw359_6), ((HB.out.cell (World.block_lt_of_cell? w _ hw359_7)).trans hw359_7), ((HB.out.cell (World.block_lt_of_cell? w _ hw359_8)).trans hw359_8), ((HB.out.cell (World.block_lt_of_cell? w _ hw359_9)).trans hw359_9), ((HB.out.cell (World.block_lt_of_cell? w _ hw359_10)).trans hw359_10), ((HB.out.cell (World.block_lt_of_cell? w _ hw359_11)).trans hw359_11), ((HB.out.cell (World.block_lt_of_cell? w _ hw360_0)).trans hw360_0), ((HB.out.cell (World.block_lt_of_cell? w _ hw360_1)).trans hw360_1), ((HB.out.cell (World.block_lt_of_cell? w _ hw360_2)).trans hw360_2), ((HB.out.cell (World.block_lt_of_cell? w _ hw360_3)).trans hw360_3), ((HB.out.cell (World.block_lt_of_cell? w _ hw360_4)).trans hw360_4), ((HB.out.cell (World.block_lt_of_cell? w _ hw360_5)).trans hw360_5), ((HB.out.cell (World.block_lt_of_cell? w _ hw360_6)).trans hw360_6), ((HB.out.cell (World.block_lt_of_cell? w _ hw360_7)).trans hw360_7), ((HB.out.cell (World.block_lt_of_cell? w _ hw360_8)).trans hw360_8), ((HB.out.cell (World.block_lt_of_cell? w _ hw360_9)).trans hw360_9), ((HB.out.cell (World.block_lt_of_cell? w _ hw360_10)).trans hw360_10), ((HB.out.cell (World.block_lt_of_cell? w _ hw360_11)).trans hw360_11), ((HB.out.cell (World.block_lt_of_cell? w _ hw361_0)).trans hw361_0), ((HB.out.cell (World.block_lt_of_cell? w _ hw361_1)).trans hw361_1), ((HB.out.cell (World.block_lt_of_cell? w _ hw361_2)).trans hw361_2), ((HB.out.cell (World.block_lt_of_cell? w _ hw361_3)).trans hw361_3), ((HB.out.cell (World.block_lt_of_cell? w _ hw361_4)).trans hw361_4), ((HB.out.cell (World.block_lt_of_cell? w _ hw361_5)).trans hw361_5), ((HB.out.cell (World.block_lt_of_cell? w _ hw361_6)).trans hw361_6), ((HB.out.cell (World.block_lt_of_cell? w _ hw361_7)).trans hw361_7), ((HB.out.cell (World.block_lt_of_cell? w _ hw361_8)).trans hw361_8), ((HB.out.cell (World.block_lt_of_cell? w _ hw361_9)).trans hw361_9), ((HB.out.cell (World.block_lt_of_cell? w _ hw361_10)).trans hw361_10), ((HB.out.cell (World.block_lt_of_cell? w _ hw361_11)).trans hw361_11), ((HB.out.cell (World.block_lt_of_cell? w _ hw362_0)).trans hw362_0), ((HB.out.cell (World.block_lt_of_cell? w _ hw362_1)).trans hw362_1), ((HB.out.cell (World.block_lt_of_cell? w _ hw362_2)).trans hw362_2), ((HB.out.cell (World.block_lt_of_cell? w _ hw362_3)).trans hw362_3), ((HB.out.cell (World.block_lt_of_cell? w _ hw362_4)).trans hw362_4), ((HB.out.cell (World.block_lt_of_cell? w _ hw362_5)).trans hw362_5), ((HB.out.cell (World.block_lt_of_cell? w _ hw362_6)).trans hw362_6), ((HB.out.cell (World.block_lt_of_cell? w _ hw362_7)).trans hw362_7), ((HB.out.cell (World.block_lt_of_cell? w _ hw362_8)).trans hw362_8), ((HB.out.cell (World.block_lt_of_cell? w _ hw362_9)).trans hw362_9), ((HB.out.cell (World.block_lt_of_cell? w _ hw362_10)).trans hw362_10), ((HB.out.cell (World.block_lt_of_cell? w _ hw362_11)).trans hw362_11)⟩ (fun hHeld => ?_); refine with_tabW cofferlaw22_given.tab13 cofferlaw22_given.bits13 (fun HT_ HW_ => ?_)
   generalize w34.drew = w35 at HO_3 HO341 HO347 HO352 HO357 BK335 BK358 HB HR359_10 HR359_7 HR360_10 HR360_7 HR361_10 HR361_7 HR362_10 HR362_7 hx359_0 hx359_1 hx359_10 hx359_11 hx359_2 hx359_3 hx359_4 hx359_5 hx359_6 hx359_7 hx359_8 hx359_9 hx360_0 hx360_1 hx360_10 hx360_11 hx360_2 hx360_3 hx360_4 hx360_5 hx360_6 hx360_7 hx360_8 hx360_9 hx361_0 hx361_1 hx361_10 hx361_11 hx361_2 hx361_3 hx361_4 hx361_5 hx361_6 hx361_7 hx361_8 hx361_9 hx362_0 hx362_1 hx362_10 hx362_11 hx362_2 hx362_3 hx362_4 hx362_5 hx362_6 hx362_7 hx362_8 hx362_9 hHeld ⊢
   refine pure_ (i := 0) (N := some 58) (v := ?_) (a' := ?_) (tm 26 1) rfl rfl (zan HT_.out (by kernel_rfl)) (fun _ _ _ h => h) (Or.inl ⟨by rfl, ?_⟩) ?_ ?_
   rotate_left
   ·
    intro w'
    go_simp
    with_reducible rfl
   rotate_left
   ·
    simp only [aw]
    rfl
   refine pure_ (i := 1) (N := some 59) (v := ?_) (a' := ?_) (tm 26 3) rfl rfl (zan HT_.out (by kernel_rfl)) (fun _ _ _ h => h) (Or.inl ⟨by rfl, ?_⟩) ?_ ?_
   rotate_left
   ·
    intro w'
    go_simp
    with_reducible rfl
   rotate_left
   ·
    simp only [aw]
    rfl
   refine pure_ (i := 2) (N := some 60) (v := ?_) (a' := ?_) (tm 26 7) rfl rfl (zan HT_.out (by kernel_rfl)) (fun _ _ _ h => h) (Or.inl ⟨by rfl, ?_⟩) ?_ ?_
   rotate_left
   ·
    intro w'
    go_simp
    with_reducible rfl
   rotate_left
   ·
    simp only [aw]
    rfl
   refine pure_ (i := 3) (N := some 61) (v := ?_) (a' := ?_) (tm 26 15) rfl rfl (zan HT_.out (by kernel_rfl)) (fun _ _ _ h => h) (Or.inl ⟨by rfl, ?_⟩) ?_ ?_
   rotate_left
   ·
    intro w'
    go_simp
    with_reducible rfl
   rotate_left
   ·
    simp only [aw]
    rfl
   refine pure_ (i := 4) (N := some 62) (v := ?_) (a' := ?_) (tm 26 31) rfl rfl (zan HT_.out (by kernel_rfl)) (fun _ _ _ h => h) (Or.inl ⟨by rfl, ?_⟩) ?_ ?_
   rotate_left
   ·
    intro w'
    go_simp
    with_reducible rfl
   rotate_left
   ·
    simp only [aw]
    rfl
   refine pure_ (i := 6) (N := some 64) (v := ?_) (a' := ?_) (tm 26 95) rfl rfl (zan HT_.out (by kernel_rfl)) (fun _ _ _ h => h) (Or.inl ⟨by rfl, ?_⟩) ?_ ?_
   rotate_left
   ·
    intro w'
    go_simp
    with_reducible rfl
   rotate_left
   ·
    simp only [aw]
    rfl
   refine pure_ (i := 7) (N := some 65) (v := ?_) (a' := ?_) (tm 26 223) rfl rfl (zan HT_.out (by kernel_rfl)) (fun _ _ _ h => h) (Or.inl ⟨by rfl, ?_⟩) ?_ ?_
   rotate_left
   ·
    intro w'
    go_simp
    with_reducible rfl
   rotate_left
   ·
    simp only [aw]
    rfl
   refine pure_ (i := 8) (N := some 66) (v := ?_) (a' := ?_) (tm 26 479) rfl rfl (zan HT_.out (by kernel_rfl)) (fun _ _ _ h => h) (Or.inl ⟨by rfl, ?_⟩) ?_ ?_
   rotate_left
   ·
    intro w'
    go_simp
    with_reducible rfl
   rotate_left
   ·
    simp only [aw]
    rfl
   refine pure_ (i := 9) (N := some 67) (v := ?_) (a' := ?_) (tm 26 991) rfl rfl (zan HT_.out (by kernel_rfl)) (fun _ _ _ h => h) (Or.inl ⟨by rfl, ?_⟩) ?_ ?_
   rotate_left
   ·
    intro w'
    go_simp
    with_reducible rfl
   rotate_left
   ·
    simp only [aw]
    rfl
   refine pure_ (i := 11) (N := some 69) (v := ?_) (a' := ?_) (tm 26 3039) rfl rfl (zan HT_.out (by kernel_rfl)) (fun _ _ _ h => h) (Or.inl ⟨by rfl, ?_⟩) ?_ ?_
   rotate_left
   ·
    intro w'
    go_simp
    with_reducible rfl
   rotate_left
   ·
    simp only [aw]
    rfl
   refine pure_ (i := 12) (N := some 70) (v := ?_) (a' := ?_) (tm 26 7135) rfl rfl (zan HT_.out (by kernel_rfl)) (fun _ _ _ h => h) (Or.inl ⟨by rfl, ?_⟩) ?_ ?_
   rotate_left
   ·
    intro w'
    go_simp
    with_reducible rfl
   rotate_left
   ·
    simp only [aw]
    rfl
   refine pure_ (i := 13) (N := some 71) (v := ?_) (a' := ?_) (tm 26 15327) rfl rfl (zan HT_.out (by kernel_rfl)) (fun _ _ _ h => h) (Or.inl ⟨by rfl, ?_⟩) ?_ ?_
   rotate_left
   ·
    intro w'
    go_simp
    with_reducible rfl
   rotate_left
   ·
    simp only [aw]
    rfl
   refine pure_ (i := 14) (N := some 72) (v := ?_) (a' := ?_) (tm 26 31711) rfl rfl (zan HT_.out (by kernel_rfl)) (fun _ _ _ h => h) (Or.inl ⟨by rfl, ?_⟩) ?_ ?_
   rotate_left
   ·
    intro w'
    go_simp
    with_reducible rfl
   rotate_left
   ·
    simp only [aw]
    rfl
   refine pure_ (i := 17) (N := some 75) (v := ?_) (a' := ?_) (tm 26 162783) rfl rfl (zan HT_.out (by kernel_rfl)) (fun _ _ _ h => h) (Or.inl ⟨by rfl, ?_⟩) ?_ ?_
   rotate_left
   ·
    intro w'
    go_simp
    with_reducible rfl
   rotate_left
   ·
    simp only [aw]
    rfl
   refine pure_ (i := 18) (N := some 76) (v := ?_) (a' := ?_) (tm 26 424927) rfl rfl (zan HT_.out (by kernel_rfl)) (fun _ _ _ h => h) (Or.inl ⟨by rfl, ?_⟩) ?_ ?_
   rotate_left
   ·
    intro w'
    go_simp
    with_reducible rfl
   rotate_left
   ·
    simp only [aw]
    rfl
   refine pure_ (i := 19) (N := some 77) (v := ?_) (a' := ?_) (tm 26 949215) rfl rfl (zan HT_.out (by kernel_rfl)) (fun _ _ _ h => h) (Or.inl ⟨by rfl, ?_⟩) ?_ ?_
   rotate_left
   ·
    intro w'
    go_simp
    with_reducible rfl
   rotate_left
   ·
    simp only [aw]
    rfl
   refine pure_ (i := 20) (N := some 78) (v := ?_) (a' := ?_) (tm 26 1997791) rfl rfl (zan HT_.out (by kernel_rfl)) (fun _ _ _ h => h) (Or.inl ⟨by rfl, ?_⟩) ?_ ?_
   rotate_left
   ·
    intro w'
    go_simp
    with_reducible rfl
   rotate_left
   ·
    simp only [aw]
    rfl
   refine take_ (i := 5) (N := some 63) (v := ?_) (a' := ?_) #[true, true, true, true, true, true, true, true, true, true, false, true, true, true, true, false, false, true, true, true, true, false, false, false, false, false] rfl rfl (zaw HT_.out HW_.out (by kernel_rfl)) (fun _ _ _ h => h) (Or.inl ⟨by rfl, ?_⟩) hHeld ?_ ?_
   rotate_left
   ·
    rintro w' ⟨s0, s1, s2, s3, s4, s5, s6, s7, s8, s9, s10, s11, s12, s13, s14, s15, s16, s17, s18, s19, s20, s21, s22, s23, s24, s25, s26, s27, s28, s29, s30, s31, s32, s33, s34, s35, s36, s37, s38, s39, s40, s41, s42, s43, s44, s45, s46, s47, s48, s49, s50, s51, s52, s53, s54, s55⟩
    go_simp
    with_reducible rfl
   rotate_left
   ·
    simp only [aw]
    rfl
   refine take_ (i := 10) (N := some 68) (v := ?_) (a' := ?_) #[true, true, true, true, true, true, true, true, true, true, true, true, true, true, true, false, false, true, true, true, true, false, false, false, false, false] rfl rfl (zaw HT_.out HW_.out (by kernel_rfl)) (fun _ _ _ h => h) (Or.inl ⟨by rfl, ?_⟩) hHeld ?_ ?_
   rotate_left
   ·
    rintro w' ⟨s0, s1, s2, s3, s4, s5, s6, s7, s8, s9, s10, s11, s12, s13, s14, s15, s16, s17, s18, s19, s20, s21, s22, s23, s24, s25, s26, s27, s28, s29, s30, s31, s32, s33, s34, s35, s36, s37, s38, s39, s40, s41, s42, s43, s44, s45, s46, s47, s48, s49, s50, s51, s52, s53, s54, s55⟩
    go_simp
    with_reducible rfl
   rotate_left
   ·
    simp only [aw]
    rfl
   refine take_ (i := 15) (N := some 73) (v := ?_) (a' := ?_) #[true, true, true, true, true, true, true, true, true, true, true, true, true, true, true, true, false, true, true, true, true, false, false, false, false, false] rfl rfl (zaw HT_.out HW_.out (by kernel_rfl)) (fun _ _ _ h => h) (Or.inl ⟨by rfl, ?_⟩) hHeld ?_ ?_
   rotate_left
   ·
    rintro w' ⟨s0, s1, s2, s3, s4, s5, s6, s7, s8, s9, s10, s11, s12, s13, s14, s15, s16, s17, s18, s19, s20, s21, s22, s23, s24, s25, s26, s27, s28, s29, s30, s31, s32, s33, s34, s35, s36, s37, s38, s39, s40, s41, s42, s43, s44, s45, s46, s47, s48, s49, s50, s51, s52, s53, s54, s55⟩
    go_simp
    with_reducible rfl
   rotate_left
   ·
    simp only [aw]
    rfl
   refine take_ (i := 16) (N := some 74) (v := ?_) (a' := ?_) #[true, true, true, true, true, true, true, true, true, true, true, true, true, true, true, true, true, true, true, true, true, false, false, false, false, false] rfl rfl (zaw HT_.out HW_.out (by kernel_rfl)) (fun _ _ _ h => h) (Or.inl ⟨by rfl, ?_⟩) hHeld ?_ ?_
   rotate_left
   ·
    rintro w' ⟨s0, s1, s2, s3, s4, s5, s6, s7, s8, s9, s10, s11, s12, s13, s14, s15, s16, s17, s18, s19, s20, s21, s22, s23, s24, s25, s26, s27, s28, s29, s30, s31, s32, s33, s34, s35, s36, s37, s38, s39, s40, s41, s42, s43, s44, s45, s46, s47, s48, s49, s50, s51, s52, s53, s54, s55⟩
    go_simp
    with_reducible rfl
   rotate_left
   ·
    simp only [aw]
    rfl
   refine take_ (i := 21) (N := some 79) (v := ?_) (a' := ?_) #[true, true, true, true, true, true, true, true, true, true, true, true, true, true, true, true, true, true, true, true, true, true, false, false, false, false] rfl rfl (zaw HT_.out HW_.out (by kernel_rfl)) (fun _ _ _ h => h) (Or.inl ⟨by rfl, ?_⟩) hHeld ?_ ?_
   rotate_left
   ·
    rintro w' ⟨s0, s1, s2, s3, s4, s5, s6, s7, s8, s9, s10, s11, s12, s13, s14, s15, s16, s17, s18, s19, s20, s21, s22, s23, s24, s25, s26, s27, s28, s29, s30, s31, s32, s33, s34, s35, s36, s37, s38, s39, s40, s41, s42, s43, s44, s45, s46, s47, s48, s49, s50, s51, s52, s53, s54, s55⟩
    go_simp
    with_reducible rfl
   rotate_left
   ·
    simp only [aw]
    rfl
   refine pure_ (i := 22) (N := some 80) (v := ?_) (a' := ?_) (tm 26 8388607) rfl rfl (zan HT_.out (by kernel_rfl)) (fun _ _ _ h => h) (Or.inl ⟨by rfl, ?_⟩) ?_ ?_
   rotate_left
   ·
    intro w'
    go_simp
    with_reducible rfl
   rotate_left
   ·
    simp only [aw]
    rfl
   refine one_ (i := 23) (N := some 81) (tm 26 16777215) rfl rfl (one_of HT_.out (by kernel_rfl)) (by decide) (fun K hK => ?_)
   refine value_ (w1 := ?_) (v := ?_) (by rfl) rfl ?_ ?_
   rotate_left 2
   ·
    go_simp
    constructor
    ·
     rfl
    rfl
   refine hK.out _ _ ⟨(zaa (zah BK358.out _) 0).trans rfl, (zaa (zah BK358.out _) 1).trans rfl, (zaa (zah BK358.out _) 2).trans rfl, (zaa (zah BK358.out _) 3).trans rfl, (zaa (zah BK358.out _) 4).trans rfl, (zaa (zah BK358.out _) 5).trans rfl, (zaa (zah BK358.out _) 6).trans rfl, (zaa (zah BK358.out _) 7).trans rfl, (World.cell?_alloc_lt _ _ _ (World.block_lt_of_cell? _ _ (((HB.out.cell (World.block_lt_of_cell? w _ hw359_0)).trans hw359_0)))).trans (((HB.out.cell (World.block_lt_of_cell? w _ hw359_0)).trans hw359_0)), (World.cell?_alloc_lt _ _ _ (World.block_lt_of_cell? _ _ (((HB.out.cell (World.block_lt_of_cell? w _ hw359_1)).trans hw359_1)))).trans (((HB.out.cell (World.block_lt_of_cell? w _ hw359_1)).trans hw359_1)), (World.cell?_alloc_lt _ _ _ (World.block_lt_of_cell? _ _ (((HB.out.cell (World.block_lt_of_cell? w _ hw359_2)).trans hw359_2)))).trans (((HB.out.cell (World.block_lt_of_cell? w _ hw359_2)).trans hw359_2)), (World.cell?_alloc_lt _ _ _ (World.block_lt_of_cell? _ _ (((HB.out.cell (World.block_lt_of_cell? w _ hw359_3)).trans hw359_3)))).trans (((HB.out.cell (World.block_lt_of_cell? w _ hw359_3)).trans hw359_3)), (World.cell?_alloc_lt _ _ _ (World.block_lt_of_cell? _ _ (((HB.out.cell (World.block_lt_of_cell? w _ hw359_4)).trans hw359_4)))).trans (((HB.out.cell (World.block_lt_of_cell? w _ hw359_4)).trans hw359_4)), (World.cell?_alloc_lt _ _ _ (World.block_lt_of_cell? _ _ (((HB.out.cell (World.block_lt_of_cell? w _ hw359_5)).trans hw359_5)))).trans (((HB.out.cell (World.block_lt_of_cell? w _ hw359_5)).trans hw359_5)), (World.cell?_alloc_lt _ _ _ (World.block_lt_of_cell? _ _ (((HB.out.cell (World.block_lt_of_cell? w _ hw359_6)).trans hw359_6)))).trans (((HB.out.cell (World.block_lt_of_cell? w _ hw359_6)).trans hw359_6)), (World.cell?_alloc_lt _ _ _ (World.block_lt_of_cell? _ _ (((HB.out.cell (World.block_lt_of_cell? w _ hw359_7)).trans hw359_7)))).trans (((HB.out.cell (World.block_lt_of_cell? w _ hw359_7)).trans hw359_7)), (World.cell?_alloc_lt _ _ _ (World.block_lt_of_cell? _ _ (((HB.out.cell (World.block_lt_of_cell? w _ hw359_8)).trans hw359_8)))).trans (((HB.out.cell (World.block_lt_of_cell? w _ hw359_8)).trans hw359_8)), (World.cell?_alloc_lt _ _ _ (World.block_lt_of_cell? _ _ (((HB.out.cell (World.block_lt_of_cell? w _ hw359_9)).trans hw359_9)))).trans (((HB.out.cell (World.block_lt_of_cell? w _ hw359_9)).trans hw359_9)), (World.cell?_alloc_lt _ _ _ (World.block_lt_of_cell? _ _ (((HB.out.cell (World.block_lt_of_cell? w _ hw359_10)).trans hw359_10)))).trans (((HB.out.cell (World.block_lt_of_cell? w _ hw359_10)).trans hw359_10)), (World.cell?_alloc_lt _ _ _ (World.block_lt_of_cell? _ _ (((HB.out.cell (World.block_lt_of_cell? w _ hw359_11)).trans hw359_11)))).trans (((HB.out.cell (World.block_lt_of_cell? w _ hw359_11)).trans hw359_11)), (World.cell?_alloc_lt _ _ _ (World.block_lt_of_cell? _ _ (((HB.out.cell (World.block_lt_of_cell? w _ hw360_0)).trans hw360_0)))).trans (((HB.out.cell (World.block_lt_of_cell? w _ hw360_0)).trans hw360_0)), (World.cell?_alloc_lt _ _ _ (World.block_lt_of_cell? _ _ (((HB.out.cell (World.block_lt_of_cell? w _ hw360_1)).trans hw360_1)))).trans (((HB.out.cell (World.block_lt_of_cell? w _ hw360_1)).trans hw360_1)), (World.cell?_alloc_lt _ _ _ (World.block_lt_of_cell? _ _ (((HB.out.cell (World.block_lt_of_cell? w _ hw360_2)).trans hw360_2)))).trans (((HB.out.cell (World.block_lt_of_cell? w _ hw360_2)).trans hw360_2)), (World.cell?_alloc_lt _ _ _ (World.block_lt_of_cell? _ _ (((HB.out.cell (World.block_lt_of_cell? w _ hw360_3)).trans hw360_3)))).trans (((HB.out.cell (World.block_lt_of_cell? w _ hw360_3)).trans hw360_3)), (World.cell?_alloc_lt _ _ _ (World.block_lt_of_cell? _ _ (((HB.out.cell (World.block_lt_of_cell? w _ hw360_4)).trans hw360_4)))).trans (((HB.out.cell (World.block_lt_of_cell? w _ hw360_4)).trans hw360_4)), (World.cell?_alloc_lt _ _ _ (World.block_lt_of_cell? _ _ (((HB.out.cell (World.block_lt_of_cell? w _ hw360_5)).trans hw360_5)))).trans (((HB.out.cell (World.block_lt_of_cell? w _ hw360_5)).trans hw360_5)), (World.cell?_alloc_lt _ _ _ (World.block_lt_of_cell? _ _ (((HB.out.cell (World.block_lt_of_cell? w _ hw360_6)).trans hw360_6)))).trans (((HB.out.cell (World.block_lt_of_cell? w _ hw360_6)).trans hw360_6)), (World.cell?_alloc_lt _ _ _ (World.block_lt_of_cell? _ _ (((HB.out.cell (World.block_lt_of_cell? w _ hw360_7)).trans hw360_7)))).trans (((HB.out.cell (World.block_lt_of_cell? w _ hw360_7)).trans hw360_7)), (World.cell?_alloc_lt _ _ _ (World.block_lt_of_cell? _ _ (((HB.out.cell (World.block_lt_of_cell? w _ hw360_8)).trans hw360_8)))).trans (((HB.out.cell (World.block_lt_of_cell? w _ hw360_8)).trans hw360_8)), (World.cell?_alloc_lt _ _ _ (World.block_lt_of_cell? _ _ (((HB.out.cell (World.block_lt_of_cell? w _ hw360_9)).trans hw360_9)))).trans (((HB.out.cell (World.block_lt_of_cell? w _ hw360_9)).trans hw360_9)), (World.cell?_alloc_lt _ _ _ (World.block_lt_of_cell? _ _ (((HB.out.cell (World.block_lt_of_cell? w _ hw360_10)).trans hw360_10)))).trans (((HB.out.cell (World.block_lt_of_cell? w _ hw360_10)).trans hw360_10)), (World.cell?_alloc_lt _ _ _ (World.block_lt_of_cell? _ _ (((HB.out.cell (World.block_lt_of_cell? w _ hw360_11)).trans hw360_11)))).trans (((HB.out.cell (World.block_lt_of_cell? w _ hw360_11)).trans hw360_11)), (World.cell?_alloc_lt _ _ _ (World.block_lt_of_cell? _ _ (((HB.out.cell (World.block_lt_of_cell? w _ hw361_0)).trans hw361_0)))).trans (((HB.out.cell (World.block_lt_of_cell? w _ hw361_0)).trans hw361_0)), (World.cell?_alloc_lt _ _ _ (World.block_lt_of_cell? _ _ (((HB.out.cell (World.block_lt_of_cell? w _ hw361_1)).trans hw361_1)))).trans (((HB.out.cell (World.block_lt_of_cell? w _ hw361_1)).trans hw361_1)), (World.cell?_alloc_lt _ _ _ (World.block_lt_of_cell? _ _ (((HB.out.cell (World.block_lt_of_cell? w _ hw361_2)).trans hw361_2)))).trans (((HB.out.cell (World.block_lt_of_cell? w _ hw361_2)).trans hw361_2)), (World.cell?_alloc_lt _ _ _ (World.block_lt_of_cell? _ _ (((HB.out.cell (World.block_lt_of_cell? w _ hw361_3)).trans hw361_3)))).trans (((HB.out.cell (World.block_lt_of_cell? w _ hw361_3)).trans hw361_3)), (World.cell?_alloc_lt _ _ _ (World.block_lt_of_cell? _ _ (((HB.out.cell (World.block_lt_of_cell? w _ hw361_4)).trans hw361_4)))).trans (((HB.out.cell (World.block_lt_of_cell? w _ hw361_4)).trans hw361_4)), (World.cell?_alloc_lt _ _ _ (World.block_lt_of_cell? _ _ (((HB.out.cell (World.block_lt_of_cell? w _ hw361_5)).trans hw361_5)))).trans (((HB.out.cell (World.block_lt_of_cell? w _ hw361_5)).trans hw361_5)), (World.cell?_alloc_lt _ _ _ (World.block_lt_of_cell? _ _ (((HB.out.cell (World.block_lt_of_cell? w _ hw361_6)).trans hw361_6)))).trans (((HB.out.cell (World.block_lt_of_cell? w _ hw361_6)).trans hw361_6)), (World.cell?_alloc_lt _ _ _ (World.block_lt_of_cell? _ _ (((HB.out.cell (World.block_lt_of_cell? w _ hw361_7)).trans hw361_7)))).trans (((HB.out.cell (World.block_lt_of_cell? w _ hw361_7)).trans hw361_7)), (World.cell?_alloc_lt _ _ _ (World.block_lt_of_cell? _ _ (((HB.out.cell (World.block_lt_of_cell? w _ hw361_8)).trans hw361_8)))).trans (((HB.out.cell (World.block_lt_of_cell? w _ hw361_8)).trans hw361_8)), (World.cell?_alloc_lt _ _ _ (World.block_lt_of_cell? _ _ (((HB.out.cell (World.block_lt_of_cell? w _ hw361_9)).trans hw361_9)))).trans (((HB.out.cell (World.block_lt_of_cell? w _ hw361_9)).trans hw361_9)), (World.cell?_alloc_lt _ _ _ (World.block_lt_of_cell? _ _ (((HB.out.cell (World.block_lt_of_cell? w _ hw361_10)).trans hw361_10)))).trans (((HB.out.cell (World.block_lt_of_cell? w _ hw361_10)).trans hw361_10)), (World.cell?_alloc_lt _ _ _ (World.block_lt_of_cell? _ _ (((HB.out.cell (World.block_lt_of_cell? w _ hw361_11)).trans hw361_11)))).trans (((HB.out.cell (World.block_lt_of_cell? w _ hw361_11)).trans hw361_11)), (World.cell?_alloc_lt _ _ _ (World.block_lt_of_cell? _ _ (((HB.out.cell (World.block_lt_of_cell? w _ hw362_0)).trans hw362_0)))).trans (((HB.out.cell (World.block_lt_of_cell? w _ hw362_0)).trans hw362_0)), (World.cell?_alloc_lt _ _ _ (World.block_lt_of_cell? _ _ (((HB.out.cell (World.block_lt_of_cell? w _ hw362_1)).trans hw362_1)))).trans (((HB.out.cell (World.block_lt_of_cell? w _ hw362_1)).trans hw362_1)), (World.cell?_alloc_lt _ _ _ (World.block_lt_of_cell? _ _ (((HB.out.cell (World.block_lt_of_cell? w _ hw362_2)).trans hw362_2)))).trans (((HB.out.cell (World.block_lt_of_cell? w _ hw362_2)).trans hw362_2)), (World.cell?_alloc_lt _ _ _ (World.block_lt_of_cell? _ _ (((HB.out.cell (World.block_lt_of_cell? w _ hw362_3)).trans hw362_3)))).trans (((HB.out.cell (World.block_lt_of_cell? w _ hw362_3)).trans hw362_3)), (World.cell?_alloc_lt _ _ _ (World.block_lt_of_cell? _ _ (((HB.out.cell (World.block_lt_of_cell? w _ hw362_4)).trans hw362_4)))).trans (((HB.out.cell (World.block_lt_of_cell? w _ hw362_4)).trans hw362_4)), (World.cell?_alloc_lt _ _ _ (World.block_lt_of_cell? _ _ (((HB.out.cell (World.block_lt_of_cell? w _ hw362_5)).trans hw362_5)))).trans (((HB.out.cell (World.block_lt_of_cell? w _ hw362_5)).trans hw362_5)), (World.cell?_alloc_lt _ _ _ (World.block_lt_of_cell? _ _ (((HB.out.cell (World.block_lt_of_cell? w _ hw362_6)).trans hw362_6)))).trans (((HB.out.cell (World.block_lt_of_cell? w _ hw362_6)).trans hw362_6)), (World.cell?_alloc_lt _ _ _ (World.block_lt_of_cell? _ _ (((HB.out.cell (World.block_lt_of_cell? w _ hw362_7)).trans hw362_7)))).trans (((HB.out.cell (World.block_lt_of_cell? w _ hw362_7)).trans hw362_7)), (World.cell?_alloc_lt _ _ _ (World.block_lt_of_cell? _ _ (((HB.out.cell (World.block_lt_of_cell? w _ hw362_8)).trans hw362_8)))).trans (((HB.out.cell (World.block_lt_of_cell? w _ hw362_8)).trans hw362_8)), (World.cell?_alloc_lt _ _ _ (World.block_lt_of_cell? _ _ (((HB.out.cell (World.block_lt_of_cell? w _ hw362_9)).trans hw362_9)))).trans (((HB.out.cell (World.block_lt_of_cell? w _ hw362_9)).trans hw362_9)), (World.cell?_alloc_lt _ _ _ (World.block_lt_of_cell? _ _ (((HB.out.cell (World.block_lt_of_cell? w _ hw362_10)).trans hw362_10)))).trans (((HB.out.cell (World.block_lt_of_cell? w _ hw362_10)).trans hw362_10)), (World.cell?_alloc_lt _ _ _ (World.block_lt_of_cell? _ _ (((HB.out.cell (World.block_lt_of_cell? w _ hw362_11)).trans hw362_11)))).trans (((HB.out.cell (World.block_lt_of_cell? w _ hw362_11)).trans hw362_11))⟩ (fun hHeld => ?_)
   clear hK K
   refine norm_ (a' := ?_) ?_ ?_
   rotate_left
   ·
    show Act.put _ (some 81) _ = _
    simp only [aw]
    rfl
   refine one_ (i := 24) (N := some 82) (tm 26 33554431) rfl rfl (one_of HT_.out (by kernel_rfl)) (by decide) (fun K hK => ?_)
   refine Kd.N_append_step k36 (w0 := w) w.heap.size (by rfl) (.tmp 58) (.tmp 81) 23 36 (.agg #[(.int .i64 0), (.int .i64 0), (.int .i64 0), (.int .i64 0), (.string ⟨#[]⟩), (.string ⟨#[]⟩), (.string ⟨#[]⟩), (.slice none 0 0), (.int .i64 0), (.int .i64 0), (.slice none 0 0), (.string ⟨#[]⟩)]) 160 rfl Tryd.underlying23 info36 rfl (by decide) (by omega) u3 x3_1 (⟨(zaf l0 x4_1).f0, (zaf l0 x4_1).f1, (zaf l0 x4_1).f2, (⟨(zaf l0 x4_1).f3.f0, (zaf l0 x4_1).f3.f1, (zaf l0 x4_1).f3.f2, (zaf l0 x4_1).f3.f3, y348, (zaf l0 x4_1).f3.f5, (zaf l0 x4_1).f3.f6, y353⟩ : S34), (zaf l0 x4_1).f4⟩ : S36) [.int .i64 ((zaf l0 x4_1).f0), .int .i64 ((zaf l0 x4_1).f1), .int .i64 ((zaf l0 x4_1).f2), .int .i64 ((zaf l0 x4_1).f3.f0), .string ((zaf l0 x4_1).f3.f1), .string ((zaf l0 x4_1).f3.f2), .string ((zaf l0 x4_1).f3.f3), .slice Ao22 y348.length co22, .int .i64 ((zaf l0 x4_1).f3.f5), .int .i64 ((zaf l0 x4_1).f3.f6), .slice Ao24 y353.length co24, .string ((zaf l0 x4_1).f4)] (fun k_ => (w.heap.size ≤ k_) ∧ k_ ≠ gb335 ∧ k_ ≠ gb358) (fun k_ => ((fun k_ => (w.heap.size ≤ k_) ∧ k_ ≠ gb335 ∧ k_ ≠ gb358)) k_ ∧ some k_ ≠ (u3 : Value).ownBlock) rfl rfl ?aP (fun _ hk => hk) ?aF ?aO ?aB ?aS ?aL ?_
   (case aP => exact (k36_mkF _ _ (⟨(zaf l0 x4_1).f0, (zaf l0 x4_1).f1, (zaf l0 x4_1).f2, (⟨(zaf l0 x4_1).f3.f0, (zaf l0 x4_1).f3.f1, (zaf l0 x4_1).f3.f2, (zaf l0 x4_1).f3.f3, y348, (zaf l0 x4_1).f3.f5, (zaf l0 x4_1).f3.f6, y353⟩ : S34), (zaf l0 x4_1).f4⟩ : S36) (Kd.V_reads' (Kd.V_mono (ok' := (fun k_ => ((fun k_ => (w.heap.size ≤ k_) ∧ k_ ≠ gb335 ∧ k_ ≠ gb358)) k_ ∧ some k_ ≠ (u3 : Value).ownBlock)) (HO352.out) (fun k_ hk => ⟨⟨hk.1, ⟨hk.2.2.2.1, hk.2.2.2.2⟩⟩, hk.2.1⟩))).2.1 (Kd.V_F (Kd.V_mono (ok' := (fun k_ => ((fun k_ => (w.heap.size ≤ k_) ∧ k_ ≠ gb335 ∧ k_ ≠ gb358)) k_ ∧ some k_ ≠ (u3 : Value).ownBlock)) (HO352.out) (fun k_ hk => ⟨⟨hk.1, ⟨hk.2.2.2.1, hk.2.2.2.2⟩⟩, hk.2.1⟩))) (Kd.V_reads' (Kd.V_mono (ok' := (fun k_ => ((fun k_ => (w.heap.size ≤ k_) ∧ k_ ≠ gb335 ∧ k_ ≠ gb358)) k_ ∧ some k_ ≠ (u3 : Value).ownBlock)) (HO357.out) (fun k_ hk => ⟨⟨hk.1, ⟨hk.2.2.2.1, hk.2.2.2.2⟩⟩, hk.2.1⟩))).2.1 (Kd.V_F (Kd.V_mono (ok' := (fun k_ => ((fun k_ => (w.heap.size ≤ k_) ∧ k_ ≠ gb335 ∧ k_ ≠ gb358)) k_ ∧ some k_ ≠ (u3 : Value).ownBlock)) (HO357.out) (fun k_ hk => ⟨⟨hk.1, ⟨hk.2.2.2.1, hk.2.2.2.2⟩⟩, hk.2.1⟩)))))
   (case aB => exact (by repeat with_reducible first | exact HB.out | apply zae | apply zac | apply zad | refine zak ?_ GE335.out | refine zak ?_ GE358.out))
   (case aF => exact (fun k_ hk => ⟨(Nat.le_trans (zam (by repeat with_reducible first | exact HB.out | apply zae | apply zac | apply zad | refine zak ?_ GE335.out | refine zak ?_ GE358.out)) hk), Kd.freshB (g := gb335) (o := .cells #[.int .i64 ((zaf l0 x4_1).f3.f0), .string ((zaf l0 x4_1).f3.f1), .string ((zaf l0 x4_1).f3.f2), .string ((zaf l0 x4_1).f3.f3), .slice A334_7 ((zaf l0 x4_1).f3.f4).length c334_7, .int .i64 ((zaf l0 x4_1).f3.f5), .int .i64 ((zaf l0 x4_1).f3.f6), .slice A334_10 ((zaf l0 x4_1).f3.f7).length c334_10] 55 (0, 0)) (by (with_reducible repeat (first | refine zai ?_ _ | refine zaj ?_ | refine zah ?_ _)); exact BK335.out) k_ hk, Kd.freshB (g := gb358) (o := .cells #[.int .i64 ((zaf l0 x4_1).f3.f0), .string ((zaf l0 x4_1).f3.f1), .string ((zaf l0 x4_1).f3.f2), .string ((zaf l0 x4_1).f3.f3), .slice Ao22 y348.length co22, .int .i64 ((zaf l0 x4_1).f3.f5), .int .i64 ((zaf l0 x4_1).f3.f6), .slice Ao24 y353.length co24] 34 (0, 0)) (by (with_reducible repeat (first | refine zai ?_ _ | refine zaj ?_ | refine zah ?_ _)); exact BK358.out) k_ hk⟩))
   (case aO => exact (by (with_reducible repeat (first | apply Kd.N_alloc | apply Kd.N_drewN | apply Kd.N_drew)); exact Kd.N_mono HO_3.out (fun _ hk => ⟨hk.1, ⟨hk.2.2.2.1, hk.2.2.2.2⟩⟩)))
   (case aS => exact (zam (by repeat with_reducible first | exact HB.out | apply zae | apply zac | apply zad | refine zak ?_ GE335.out | refine zak ?_ GE358.out)))
   (case aL => have := LMc12.out; omega)
   intro v364 w36 ho hb hg hat
   rw [← Ny363.out] at ho
   have n0_ := Aside0.mk (zbe (g := gb335) (o := .cells #[.int .i64 ((zaf l0 x4_1).f3.f0), .string ((zaf l0 x4_1).f3.f1), .string ((zaf l0 x4_1).f3.f2), .string ((zaf l0 x4_1).f3.f3), .slice A334_7 ((zaf l0 x4_1).f3.f4).length c334_7, .int .i64 ((zaf l0 x4_1).f3.f5), .int .i64 ((zaf l0 x4_1).f3.f6), .slice A334_10 ((zaf l0 x4_1).f3.f7).length c334_10] 55 (0, 0)) (by (with_reducible repeat (first | refine zai ?_ _ | refine zaj ?_ | refine zah ?_ _)); exact BK335.out) hg (Kd.N_ne HO_3.out BK335.out (by decide)))
   have n1_ := Aside0.mk (Kd.R_over' (by (with_reducible repeat (first | apply Kd.R_alloc | apply Kd.R_drewN | apply Kd.R_drew)); exact HO341.out) (Kd.N_typed (by (with_reducible repeat (first | apply Kd.N_alloc | apply Kd.N_drewN | apply Kd.N_drew)); exact HO_3.out)) (by decide) hg)
   have n2_ := Aside0.mk (Kd.R_over' (by (with_reducible repeat (first | apply Kd.R_alloc | apply Kd.R_drewN | apply Kd.R_drew)); exact HO347.out) (Kd.N_typed (by (with_reducible repeat (first | apply Kd.N_alloc | apply Kd.N_drewN | apply Kd.N_drew)); exact HO_3.out)) (by decide) hg)
   have n3_ := Aside0.mk (Kd.V_afterv (ok := (fun k_ => (w.heap.size ≤ k_) ∧ some k_ ≠ (.slice Ao24 y345.length co24 : Value).ownBlock ∧ k_ ≠ gb335 ∧ k_ ≠ gb358)) (by (with_reducible repeat (first | apply Kd.V_alloc | apply Kd.V_drewN | apply Kd.V_drew)); exact Kd.V_mono HO352.out (fun _ hk => ⟨⟨hk.1, ⟨hk.2.2.1, ⟨hk.2.2.2.1, hk.2.2.2.2⟩⟩⟩, hk.2.1⟩)) hg hat)
   have n4_ := Aside0.mk (Kd.V_afterv (ok := (fun k_ => (w.heap.size ≤ k_) ∧ some k_ ≠ (.slice Ao22 y339.length co22 : Value).ownBlock ∧ k_ ≠ gb335 ∧ k_ ≠ gb358)) (by (with_reducible repeat (first | apply Kd.V_alloc | apply Kd.V_drewN | apply Kd.V_drew)); exact Kd.V_mono HO357.out (fun _ hk => ⟨⟨hk.1, ⟨hk.2.2.1, ⟨hk.2.2.2.1, hk.2.2.2.2⟩⟩⟩, hk.2.1⟩)) hg hat)
   have n5_ := Aside0.mk (zbe (g := gb358) (o := .cells #[.int .i64 ((zaf l0 x4_1).f3.f0), .string ((zaf l0 x4_1).f3.f1), .string ((zaf l0 x4_1).f3.f2), .string ((zaf l0 x4_1).f3.f3), .slice Ao22 y348.length co22, .int .i64 ((zaf l0 x4_1).f3.f5), .int .i64 ((zaf l0 x4_1).f3.f6), .slice Ao24 y353.length co24] 34 (0, 0)) (by (with_reducible repeat (first | refine zai ?_ _ | refine zaj ?_ | refine zah ?_ _)); exact BK358.out) hg (Kd.N_ne HO_3.out BK358.out (by decide)))
   have n6_ := Aside0.mk (hb)
   have n7_ := Aside0.mk (ho)
   clear BK335
   clear HO341
   clear HO347
   clear HO352
   clear HO357
   clear BK358
   clear HB
   clear HO_3
   have BK335 := n0_
   have HO341 := n1_
   have HO347 := n2_
   have HO352 := n3_
   have HO357 := n4_
   have BK358 := n5_
   have HB := n6_
   have HO365 := n7_
   clear n0_ n1_ n2_ n3_ n4_ n5_ n6_ n7_
   clear ho hb hg hat
   refine hK.out _ _ ⟨(zaa BK358.out 0).trans rfl, (zaa BK358.out 1).trans rfl, (zaa BK358.out 2).trans rfl, (zaa BK358.out 3).trans rfl, (zaa BK358.out 4).trans rfl, (zaa BK358.out 5).trans rfl, (zaa BK358.out 6).trans rfl, (zaa BK358.out 7).trans rfl, ((HB.out.cell (World.block_lt_of_cell? w _ hw359_0)).trans hw359_0), ((HB.out.cell (World.block_lt_of_cell? w _ hw359_1)).trans hw359_1), ((HB.out.cell (World.block_lt_of_cell? w _ hw359_2)).trans hw359_2), ((HB.out.cell (World.block_lt_of_cell? w _ hw359_3)).trans hw359_3), ((HB.out.cell (World.block_lt_of_cell? w _ hw359_4)).trans hw359_4), ((HB.out.cell (World.block_lt_of_cell? w _ hw359_5)).trans hw359_5), ((HB.out.cell (World.block_lt_of_cell? w _ hw359_6)).trans hw359_6), ((HB.out.cell (World.block_lt_of_cell? w _ hw359_7)).trans hw359_7), ((HB.out.cell (World.block_lt_of_cell? w _ hw359_8)).trans hw359_8), ((HB.out.cell (World.block_lt_of_cell? w _ hw359_9)).trans hw359_9), ((HB.out.cell (World.block_lt_of_cell? w _ hw359_10)).trans hw359_10), ((HB.out.cell (World.block_lt_of_cell? w _ hw359_11)).trans hw359_11), ((HB.out.cell (World.block_lt_of_cell? w _ hw360_0)).trans hw360_0), ((HB.out.cell (World.block_lt_of_cell? w _ hw360_1)).trans hw360_1), ((HB.out.cell (World.block_lt_of_cell? w _ hw360_2)).trans hw360_2), ((HB.out.cell (World.block_lt_of_cell? w _ hw360_3)).trans hw360_3), ((HB.out.cell (World.block_lt_of_cell? w _ hw360_4)).trans hw360_4), ((HB.out.cell (World.block_lt_of_cell? w _ hw360_5)).trans hw360_5), ((HB.out.cell (World.block_lt_of_cell? w _ hw360_6)).trans hw360_6), ((HB.out.cell (World.block_lt_of_cell? w _ hw360_7)).trans hw360_7), ((HB.out.cell (World.block_lt_of_cell? w _ hw360_8)).trans hw360_8), ((HB.out.cell (World.block_lt_of_cell? w _ hw360_9)).trans hw360_9), ((HB.out.cell (World.block_lt_of_cell? w _ hw360_10)).trans hw360_10), ((HB.out.cell (World.block_lt_of_cell? w _ hw360_11)).trans hw360_11), ((HB.out.cell (World.block_lt_of_cell? w _ hw361_0)).trans hw361_0), ((HB.out.cell (World.block_lt_of_cell? w _ hw361_1)).trans hw361_1), ((HB.out.cell (World.block_lt_of_cell? w _ hw361_2)).trans hw361_2), ((HB.out.cell (World.block_lt_of_cell? w _ hw361_3)).trans hw361_3), ((HB.out.cell (World.block_lt_of_cell? w _ hw361_4)).trans hw361_4), ((HB.out.cell (World.block_lt_of_cell? w _ hw361_5)).trans hw361_5), ((HB.out.cell (World.block_lt_of_cell? w _ hw361_6)).trans hw361_6), ((HB.out.cell (World.block_lt_of_cell? w _ hw361_7)).trans hw361_7), ((HB.out.cell (World.block_lt_of_cell? w _ hw361_8)).trans hw361_8), ((HB.out.cell (World.block_lt_of_cell? w _ hw361_9)).trans hw361_9), ((HB.out.cell (World.block_lt_of_cell? w _ hw361_10)).trans hw361_10), ((HB.out.cell (World.block_lt_of_cell? w _ hw361_11)).trans hw361_11), ((HB.out.cell (World.block_lt_of_cell? w _ hw362_0)).trans hw362_0), ((HB.out.cell (World.block_lt_of_cell? w _ hw362_1)).trans hw362_1), ((HB.out.cell (World.block_lt_of_cell? w _ hw362_2)).trans hw362_2), ((HB.out.cell (World.block_lt_of_cell? w _ hw362_3)).trans hw362_3), ((HB.out.cell (World.block_lt_of_cell? w _ hw362_4)).trans hw362_4), ((HB.out.cell (World.block_lt_of_cell? w _ hw362_5)).trans hw362_5), ((HB.out.cell (World.block_lt_of_cell? w _ hw362_6)).trans hw362_6), ((HB.out.cell (World.block_lt_of_cell? w _ hw362_7)).trans hw362_7), ((HB.out.cell (World.block_lt_of_cell? w _ hw362_8)).trans hw362_8), ((HB.out.cell (World.block_lt_of_cell? w _ hw362_9)).trans hw362_9), ((HB.out.cell (World.block_lt_of_cell? w _ hw362_10)).trans hw362_10), ((HB.out.cell (World.block_lt_of_cell? w _ hw362_11)).trans hw362_11)⟩ (fun hHeld => ?_)
   clear hK K
   refine norm_ (a' := ?_) ?_ ?_
   rotate_left
   ·
    show Act.put _ (some 82) _ = _
    simp only [aw]
    rfl
   refine pure_ (i := 25) (N := some 3) (v := ?_) (a' := ?_) (tm 26 67108863) rfl rfl (zan HT_.out (by kernel_rfl)) (fun _ _ _ h => h) (Or.inl ⟨by rfl, ?_⟩) ?_ ?_
   rotate_left
   ·
    intro w'
    go_simp
    with_reducible rfl
   rotate_left
   ·
    simp only [aw]
    rfl
   refine done_ (done_of HT_.out (by kernel_rfl)) ?_
   try go_wp2
   go_roundg k1
   case measure => have := HK1.out; omega
   case rel => exact ⟨(y363), (wrap64 (x4_1 + 1)), (by first | rfl | (simp; done) | (simp [*]; done)), H', ⟨by have := HK1.out; omega⟩, ⟨by (with_reducible repeat (first | apply Kd.N_alloc | apply Kd.N_drewN | apply Kd.N_drew)); exact Kd.N_mono HO365.out (fun _ hk => hk.1)⟩, ⟨by repeat with_reducible first | exact HB.out | apply zae | apply zac | apply zad | refine zak ?_ GE335.out | refine zak ?_ GE358.out⟩⟩

end Go.Proofs.YtdmlgligljagoaaDoor.PS

set_option linter.unusedVariables false
set_option linter.unusedSimpArgs false
namespace Go.Proofs.YtdmlgligljagoaaDoor
open Go.RowKit Go.Proofs.YtdmlgligljagoaaDoorW.PrintWords PS

theorem wC_mem {l : List S57} {x : S57} (h : x ∈ l) : wC x ≤ (l.map wC).sum := by
  induction l with
  | nil => cases h
  | cons y r ih =>
    rw [List.map_cons, List.sum_cons]
    rcases List.mem_cons.1 h with rfl | h
    · omega
    · have := ih h; omega
theorem wC_len (l : List S57) : l.length ≤ (l.map wC).sum := by
  induction l with
  | nil => simp
  | cons y r ih =>
    have h1 : 1 ≤ wC y := by unfold wC; omega
    rw [List.map_cons, List.sum_cons, List.length_cons]; omega
theorem wP_len (l : List S38) : l.length ≤ (l.map wP2).sum := by
  induction l with
  | nil => simp
  | cons y r ih =>
    have h1 : 1 ≤ wP2 y := by unfold wP2; omega
    rw [List.map_cons, List.sum_cons, List.length_cons]; omega
theorem meta_len {c : S57} : c.f3.f4.length ≤ wC c ∧ c.f3.f7.length ≤ wC c := by
  have := wP_len c.f3.f4
  unfold wC wS
  omega
/-! what a command's line may take -/
theorem itoa_21 {n : Int} (h : I64 n) : (Lib.itoa n).length ≤ 21 := by
  have := Lib.itoa_length_le n h.1 h.2
  omega
theorem quote_bs_len (b : ByteArray) : (quoteL b.data.toList).length ≤ 4 * b.size + 2 := by
  have := (quoteL_len b.data.toList).2
  rw [Lib.size_eq]
  exact this
def szs (l : List ByteArray) : Nat := (l.map fun b => b.size + 1).sum
theorem szs_app (a b : List ByteArray) : szs (a ++ b) = szs a + szs b := by unfold szs; rw [List.map_append, List.sum_append]
theorem szs_cons (a : ByteArray) (b : List ByteArray) : szs (a :: b) = a.size + 1 + szs b := by unfold szs; rw [List.map_cons, List.sum_cons]
theorem join_sz (l : List ByteArray) : (joinSp l).data.toList.length ≤ szs l := by
  unfold joinSp
  rw [zbd]
  induction l with
  | nil => simp [Lib.join, List.intercalate]
  | cons a r ih =>
    rw [szs_cons]
    cases r with
    | nil =>
      rw [List.map_cons, List.map_nil, Lib.join_one]
      have := Lib.size_eq a
      omega
    | cons b r =>
      have e : (Lib.join ((a :: b :: r).map (·.data.toList)) [32]).length = a.data.toList.length + 1 + (Lib.join ((b :: r).map (·.data.toList)) [32]).length := by
        simp [Lib.join, List.intercalate, List.intersperse]
        omega
      rw [e]
      have := Lib.size_eq a
      omega
theorem pairs_sz (l : List S38) : szs (l.flatMap pairT) ≤ 4 * (l.map wP2).sum := by
  induction l with
  | nil => simp [szs]
  | cons p r ih =>
    rw [List.flatMap_cons, szs_app, List.map_cons, List.sum_cons]
    have h0 := quote_bs_len p.f0
    have h1 := quote_bs_len p.f1
    have h2 : szs [] = 0 := rfl
    have h4 : szs (pairT p) = (quoteL p.f0.data.toList).length + 1 + ((quoteL p.f1.data.toList).length + 1 + 0) := by
      unfold pairT
      rw [szs_cons, szs_cons, zau, zau, h2]
    have h3 : wP2 p = p.f0.size + p.f1.size + 3 := rfl
    omega
theorem nums_sz (l : List Int) (h : ∀ x ∈ l, I64 x) : szs (l.map fun n => bs (Lib.itoa n)) ≤ 22 * l.length := by
  induction l with
  | nil => simp [szs]
  | cons p r ih =>
    have h0 := itoa_21 (h p List.mem_cons_self)
    have h1 := ih (fun x hx => h x (List.mem_cons_of_mem _ hx))
    rw [List.map_cons, szs_cons, zau, List.length_cons]
    omega
theorem part_sz (c : Nat) (s : S55) (h : StIn s) : szs (partV c (givnS s)) ≤ 22 * wS s := by
  obtain ⟨_, i5, i6, i7⟩ := h
  have q1 := quote_bs_len s.f1
  have q2 := quote_bs_len s.f2
  have q3 := quote_bs_len s.f3
  have n5 := itoa_21 i5
  have n6 := itoa_21 i6
  have p4 := pairs_sz s.f4
  have p7 := nums_sz s.f7 i7
  have hs : szs [] = 0 := rfl
  unfold partV givnS
  dsimp only
  repeat' split
  all_goals try (rw [szs_cons, zau, hs]; unfold wS; omega)
  · unfold wS; omega
  · unfold wS; omega
theorem parts_sz (f : List UInt8) (s : S55) (h : StIn s) : szs (partsV f (givnS s)) ≤ f.length * (22 * wS s) := by
  unfold partsV
  induction f with
  | nil => simp [szs]
  | cons c r ih =>
    rw [List.flatMap_cons, szs_app, List.length_cons, Nat.succ_mul]
    have := part_sz c.toNat s h
    omega
theorem form_szs (k : Int) : ∃ w f, script_formOf.f k = some (w, f) ∧ w.size ≤ 8 ∧ f.data.toList.length ≤ 4 := by
  have hc : (k = 1 ∨ k = 2 ∨ k = 3 ∨ k = 4 ∨ k = 5 ∨ k = 6 ∨ k = 7 ∨ k = 8 ∨ k = 9 ∨ k = 10 ∨ k = 11 ∨ k = 12 ∨ k = 13 ∨ k = 14 ∨ k = 15 ∨ k = 16 ∨ k = 17 ∨ k = 18) ∨ (k < 1 ∨ 18 < k) := by omega
  rcases hc with hc | hc
  · rcases hc with rfl | rfl | rfl | rfl | rfl | rfl | rfl | rfl | rfl | rfl | rfl | rfl | rfl | rfl | rfl | rfl | rfl | rfl
    all_goals exact ⟨_, _, rfl, by decide, by decide⟩
  · refine ⟨⟨#[]⟩, ⟨#[]⟩, ?_, by decide, by decide⟩
    unfold script_formOf.f
    repeat rw [if_neg (by omega)]
theorem lineT_weight (c : S57) (h : CmIn c) : (lineT (givnC c)).length ≤ 100 * wC c := by
  obtain ⟨_, i1, i2, hs⟩ := h
  have n1 := itoa_21 i1
  have n2 := itoa_21 i2
  have hq := quote_bs_len c.f4
  have hw : 14 ≤ wC c := by unfold wC wS; omega
  have hw2 : c.f4.size + 14 ≤ wC c := by unfold wC wS; omega
  have hw3 : wS c.f3 + 5 ≤ wC c := by unfold wC; omega
  unfold lineT givnC
  dsimp only
  split
  · simp only [List.length_append, List.length_cons, List.length_nil]; omega
  · split
    · obtain ⟨w, f, hf, hw8, hf4⟩ := form_szs c.f3.f0
      unfold stepL
      rw [show (givnS c.f3).f0 = c.f3.f0 from rfl, hf]
      dsimp only
      have h1 := join_sz (w :: partsV f.data.toList (givnS c.f3))
      have h2 := parts_sz f.data.toList c.f3 hs
      rw [szs_cons] at h1
      have h3 : f.data.toList.length * (22 * wS c.f3) ≤ 4 * (22 * wS c.f3) := Nat.mul_le_mul_right _ hf4
      omega
    · split
      · simp only [List.length_append, List.length_cons, List.length_nil]; omega
      · split
        · simp; omega
        · split <;> simp
          omega
theorem textT_weight (l : List S57) (h : ∀ c ∈ l, CmIn c) : (textT (l.map givnC)).length ≤ 101 * (l.map wC).sum := by
  induction l with
  | nil => simp [textT]
  | cons c r ih =>
    have h1 := lineT_weight c (h c List.mem_cons_self)
    have h2 := ih (fun x hx => h x (List.mem_cons_of_mem _ hx))
    unfold textT at h2 ⊢
    rw [List.map_cons, List.flatMap_cons, List.length_append, List.length_append, List.map_cons, List.sum_cons]
    have h3 : 1 ≤ wC c := by unfold wC; omega
    simp only [List.length_cons, List.length_nil]
    omega
theorem given_print (l : List S57) (h : ∀ c ∈ l, CmIn c) (hw : (l.map wC).sum ≤ 1048576) : PrintOK (l.map givnC) := by
  refine ⟨fun c hc => ?_, by have := textT_weight l h; omega⟩
  obtain ⟨x, hx, rfl⟩ := List.mem_map.1 hc
  obtain ⟨_, i1, i2, _, i5, i6, i7⟩ := h x hx
  have h1 := lineT_weight x (h x hx)
  have h2 := wC_mem hx
  exact ⟨i1, i2, i5, i6, i7, by omega⟩
/-! the commands as they are given -/
theorem given_go (l : List S57) (hl : l.length ≤ 4294967296) (hx : ∀ c ∈ l, c.f3.f4.length ≤ 4294967296 ∧ c.f3.f7.length ≤ 4294967296) : ∀ d i (acc : List S36), i + d = l.length → acc.length = i →
    Ev (fun k => cofferlaw22_given.l0 k l acc (i : Int)) (acc ++ (l.drop i).map givnC) := by
  intro d
  induction d with
  | zero =>
    intro i acc hi ha
    refine Ev.step (f := fun _ => some _) (fun k => ?_) (Ev.now _)
    rw [cofferlaw22_given.l0, if_neg (by omega), List.drop_of_length_le (by omega), if_pos (by omega)]
    simp only [Option.bind_some, List.map_nil, List.append_nil]
    rw [if_pos (by omega), if_pos (by simp; omega), Int.toNat_natCast, show l.length = acc.length from by omega, List.take_left']
    rfl
  | succ d ih =>
    intro i acc hi ha
    have hlt : i < l.length := by omega
    have hr := rdQ_get l i hlt
    obtain ⟨h4, h7⟩ := hx _ (List.getElem_mem hlt)
    rw [List.drop_eq_getElem_cons hlt, List.map_cons]
    have hn := ih (i + 1) (acc ++ [givnC (l[i]'hlt)]) (by omega) (by simp; omega)
    rw [List.append_assoc] at hn
    refine Ev.step (fun k => ?_) hn
    rw [cofferlaw22_given.l0, if_pos (by omega), if_pos (by omega), hr]
    simp only [List.nil_append, List.length_nil, Nat.zero_add, Option.bind_some]
    rw [if_pos (by omega), if_pos (by omega), if_pos (by omega), if_pos (by omega), if_pos (by omega), if_pos (by simp only [List.length_append, List.length_singleton]; omega), if_pos (by omega), if_pos (by simp only [List.length_append, List.length_singleton]; omega), if_pos (by omega), Int.toNat_natCast, Int.toNat_natCast, List.take_left, List.take_left, w64s (by omega)]
    rfl
theorem given_is (l : List S57) (hw : (l.map wC).sum ≤ 1048576) : ∃ k, cofferlaw22_given.f k l = some (l.map givnC) := by
  have hx : ∀ c ∈ l, c.f3.f4.length ≤ 4294967296 ∧ c.f3.f7.length ≤ 4294967296 := fun c hc => by
    have h1 := wC_mem hc
    have h2 := meta_len (c := c)
    omega
  have := given_go l (by have := wC_len l; omega) hx l.length 0 [] (by omega) rfl
  rw [List.drop_zero, List.nil_append] at this
  exact Ev.rounds this
/-! what is told of a text that is none -/
theorem parse_err {s : List UInt8} {l : List S36} {e : Int} (h : parseV s = (l, e)) (he : e ≠ 0) : l = [] ∧ (e = 3 ∨ e = 110) := by
  unfold parseV at h
  split at h
  · cases h; exact ⟨rfl, .inl rfl⟩
  · cases hg : parseG (zav s) with
    | none => rw [hg] at h; cases h; exact ⟨rfl, .inr rfl⟩
    | some l => rw [hg] at h; cases h; exact absurd rfl he
end Go.Proofs.YtdmlgligljagoaaDoor

set_option linter.unusedVariables false
set_option linter.unusedSimpArgs false
namespace Go.Proofs.YtdmlgligljagoaaDoor
open Go.RowKit PS

def valD (l : List UInt8) : Nat := l.foldl (fun a c => 10 * a + (c.toNat - 48)) 0
theorem valD_dec (u : Nat) : valD (Lib.decDigits u) = u := by
  induction u using Nat.strongRecOn with
  | ind u ih =>
    by_cases h : u < 10
    · rw [Lib.decDigits_one h]
      show 10 * 0 + ((UInt8.ofNat (48 + u)).toNat - 48) = u
      rw [dig_toNat h]; omega
    · have h10 : u % 10 < 10 := Nat.mod_lt _ (by omega)
      rw [show Lib.decDigits u = Lib.decDigits (u / 10) ++ [UInt8.ofNat (48 + u % 10)] from by rw [Lib.decDigits, dif_neg h]]
      unfold valD
      rw [List.foldl_append]
      have := ih (u / 10) (by omega)
      unfold valD at this
      rw [this]
      show 10 * (u / 10) + ((UInt8.ofNat (48 + u % 10)).toNat - 48) = u
      rw [dig_toNat h10]; omega
theorem itoa_zero_head {m : Int} {r : List UInt8} (h : Lib.itoa m = 48 :: r) : r = [] := by
  have hd : ∀ u : Nat, ∀ r, Lib.decDigits u = 48 :: r → r = [] := by
    intro u
    induction u using Nat.strongRecOn with
    | ind u ih =>
      intro r hr
      by_cases h : u < 10
      · rw [Lib.decDigits_one h] at hr
        simp only [List.cons.injEq] at hr
        exact hr.2.symm
      · rw [Lib.decDigits, dif_neg h] at hr
        obtain ⟨c, r', e', h1, _⟩ := decDigits_head (u / 10)
        rw [e', List.cons_append] at hr
        simp only [List.cons.injEq] at hr
        have hr0 := ih (u / 10) (by omega) r' (by rw [e', hr.1])
        rw [hr0, hr.1] at e'
        have := valD_dec (u / 10)
        rw [e'] at this
        have : (0 : Nat) = u / 10 := this
        omega
  unfold Lib.itoa at h
  split at h
  · simp only [List.cons.injEq] at h
    exact absurd h.1 (by decide)
  · exact hd _ _ h
def bFall : List UInt8 := [102, 97, 108, 108]
theorem fall_word : wordOf 17 = bs bFall := by decide +kernel
/-- a line that begins with 'fall' and whose other words are told -/
theorem fall_line (s : List UInt8) (r : List S88) (h : wordsV s = (wP bFall :: r, true)) : (lineV s).2 = (!(numN r false).2.2 && (numN r false).2.1.isEmpty) := by
  unfold lineV
  rw [h]
  dsimp only
  rw [cmdV, if_neg (by decide)]
  dsimp only
  obtain ⟨f, hf, _⟩ := form_word 16 (by omega)
  have e : cmdW (wP bFall).f0 r = (⟨2, 0, 0, (stepsV [110] (st0 17) r false).1, ⟨#[]⟩⟩, (stepsV [110] (st0 17) r false).2) := by
    obtain ⟨g1, g2, g3, g4, _⟩ := word_good ⟨16, by omega⟩
    dsimp only at g1 g2 g3 g4
    rw [show (wP bFall).f0 = wordOf (16 + 1) from fall_word.symm]
    unfold cmdW
    rw [if_neg g1, if_neg g2, if_neg g3, if_neg g4, cmdUp_ge 16 (by omega) f hf _ 18 (by omega) (by omega)]
    dsimp only
    have e2 : script_formOf.f ((16 + 1 : Nat) : Int) = some (wordOf 17, bs [110]) := by decide +kernel
    rw [e2] at hf
    simp only [Option.some.injEq, Prod.mk.injEq, true_and] at hf
    subst hf
    rw [zbd]
    rfl
  rw [e]
  have e3 : (stepsV [110] (st0 17) r false).2 = (numN r false).2 := rfl
  rw [e3]
  simp
theorem no_nl (s : List UInt8) (h : ∀ c ∈ s, c ≠ 10) : zav s = [s] := by
  induction s with
  | nil => rfl
  | cons c s ih =>
    rw [zav, if_neg (h c List.mem_cons_self), ih (fun d hd => h d (List.mem_cons_of_mem _ hd))]
theorem longV_one {s : List UInt8} (h : ∀ c ∈ s, c ≠ 10) (h0 : s ≠ []) (hl : s.length ≤ 8192) : longV s = false := by
  unfold longV
  rw [no_nl s h]
  have e : dropE [s] = [s] := by unfold dropE; rw [if_neg (by simpa using h0)]
  rw [e]
  simp
  omega
/-- one line -/
theorem parse_one {s : List UInt8} (h : ∀ c ∈ s, c ≠ 10) (h0 : s ≠ []) (h35 : s.head? ≠ some 35) (hl : s.length ≤ 8192) : parseV s = if (lineV s).2 = true then ([(lineV s).1], 0) else ([], 110) := by
  unfold parseV
  rw [longV_one h h0 hl, if_neg (by simp), no_nl s h, parseG, if_neg (by simp [h0, h35])]
  split
  · rfl
  · rfl
theorem words_tail (s : List UInt8) (h : ∀ c ∈ s, c ≠ 32) (h0 : s ≠ []) (h34 : s.head? ≠ some 34) (n : Nat) : wordsL (n + 1) s = ([⟨bs s, false⟩], true) := by
  have := words_step n ⟨bs s, false⟩ (.inr ⟨by rw [zbd]; exact h0, by rw [zbd]; exact h, by rw [zbd]; exact h34⟩) [] (.inl rfl)
  unfold tokT at this
  rw [if_neg (by simp), zbd, List.append_nil] at this
  rw [this]; rfl
theorem words_fall (n : Nat) (b : List UInt8) : wordsL (n + 1) (bFall ++ 32 :: b) = if (wordsL n b).2 = true then (wP bFall :: (wordsL n b).1, true) else ([], false) := by
  have := words_step n (wP bFall) (ok_wd (by decide) (by decide)) (32 :: b) (.inr ⟨_, rfl⟩)
  rw [tokT_wP] at this
  rw [this, aftW, if_pos rfl]
theorem fall_one (s : List UInt8) (h : ∀ c ∈ s, c ≠ 32) (h0 : s ≠ []) (h34 : s.head? ≠ some 34) : wordsV (bFall ++ 32 :: s) = (wP bFall :: [⟨bs s, false⟩], true) := by
  unfold wordsV
  rw [words_fall, show (bFall ++ 32 :: s).length = (s.length + 4) + 1 from by simp [bFall], words_tail s h h0 h34, if_pos rfl]
/-- one number's word that is none -/
theorem fall_bad (s : List UInt8) (h : ∀ c ∈ s, c ≠ 32) (h0 : s ≠ []) (h34 : s.head? ≠ some 34) (hb : ∀ m, I64 m → s ≠ Lib.itoa m) : (lineV (bFall ++ 32 :: s)).2 = false := by
  rw [fall_line _ _ (fall_one s h h0 h34)]
  have hn : (numV ⟨bs s, false⟩).2 = false := by
    rw [Bool.eq_false_iff]
    intro hc
    obtain ⟨_, h2, h3⟩ := numV_ok hc
    exact hb _ h3 (bs_inj h2)
  unfold numN
  rw [nextV_hit [] false (show (⟨bs s, false⟩ : S88).f1 = false from rfl)]
  dsimp only
  rw [hn]
  rfl
end Go.Proofs.YtdmlgligljagoaaDoor

set_option linter.unusedVariables false
set_option linter.unusedSimpArgs false
namespace Go.Proofs.YtdmlgligljagoaaDoor
open Go.RowKit Go.Proofs.YtdmlgligljagoaaDoorW.PrintWords PS

theorem itoa_digit (n : Nat) (h : n < 10) : Lib.itoa (n : Int) = [UInt8.ofNat (48 + n)] := by rw [Lib.itoa_nonneg, Lib.decDigits_one h]
theorem itoa_m1 : Lib.itoa (-1) = [45, 49] := by
  have := Lib.itoa_neg 1 (by omega)
  rw [show (-((1 : Nat) : Int)) = -1 from rfl] at this
  rw [this, Lib.decDigits_one (by omega)]; rfl
def fc1 : S36 := ⟨2, 0, 0, ⟨1, ⟨#[97]⟩, ⟨#[]⟩, ⟨#[]⟩, [], 0, 0, []⟩, ⟨#[]⟩⟩
def fc2 : S36 := ⟨2, 0, 0, ⟨3, ⟨#[97]⟩, ⟨#[107]⟩, ⟨#[100]⟩, [⟨⟨#[116]⟩, ⟨#[120]⟩⟩], 0, 0, []⟩, ⟨#[]⟩⟩
def fc3 : S36 := ⟨2, 0, 0, ⟨18, ⟨#[]⟩, ⟨#[]⟩, ⟨#[]⟩, [], 0, 3, [0, 2]⟩, ⟨#[]⟩⟩
def ftext : List UInt8 := [109, 97, 107, 101, 32, 34, 97, 34, 10, 112, 117, 116, 32, 34, 97, 34, 32, 34, 107, 34, 32, 34, 100, 34, 32, 34, 116, 34, 32, 34, 120, 34, 10, 35, 10, 99, 114, 97, 115, 104, 32, 51, 32, 48, 32, 50]
theorem fl1 : lineT fc1 = [109, 97, 107, 101, 32, 34, 97, 34] := by decide +kernel
theorem fl2 : lineT fc2 = [112, 117, 116, 32, 34, 97, 34, 32, 34, 107, 34, 32, 34, 100, 34, 32, 34, 116, 34, 32, 34, 120, 34] := by decide +kernel
theorem fl3 : lineT fc3 = [99, 114, 97, 115, 104, 32, 51, 32, 48, 32, 50] := by
  have e3 : Lib.itoa 3 = [51] := itoa_digit 3 (by omega)
  have e0 : Lib.itoa 0 = [48] := itoa_digit 0 (by omega)
  have e2 : Lib.itoa 2 = [50] := itoa_digit 2 (by omega)
  have hp : partsV [110, 108] fc3.f3 = [bs (Lib.itoa 3), bs (Lib.itoa 0), bs (Lib.itoa 2)] := rfl
  have hs : stepL fc3.f3 = joinSp (⟨#[99, 114, 97, 115, 104]⟩ :: partsV [110, 108] fc3.f3) := rfl
  show (stepL fc3.f3).data.toList = _
  rw [hs, hp, e3, e0, e2]
  decide +kernel
theorem fcI (c : S36) (h : c = fc1 ∨ c = fc2 ∨ c = fc3) : KindOK c ∧ CmdI c ∧ clearC c = c := by
  rcases h with rfl | rfl | rfl
  · exact ⟨.inr (.inl ⟨rfl, by decide, by decide⟩), ⟨I64_0, I64_0, I64_0, I64_0, fun x hx => by simp [fc1] at hx⟩, rfl⟩
  · exact ⟨.inr (.inl ⟨rfl, by decide, by decide⟩), ⟨I64_0, I64_0, I64_0, I64_0, fun x hx => by simp [fc2] at hx⟩, rfl⟩
  · exact ⟨.inr (.inl ⟨rfl, by decide, by decide⟩), ⟨I64_0, I64_0, I64_0, by unfold I64; decide, fun x hx => by
      simp only [fc3, List.mem_cons, List.not_mem_nil, or_false] at hx
      rcases hx with rfl | rfl <;> (unfold I64; decide)⟩, rfl⟩
theorem fparse : parseV ftext = ([fc1, fc2, fc3], 0) := by
  have hs : zav ftext = [lineT fc1, lineT fc2, [35], lineT fc3] := by rw [fl1, fl2, fl3]; decide +kernel
  have hl : longV ftext = false := by decide +kernel
  obtain ⟨k1, i1, e1⟩ := fcI fc1 (.inl rfl)
  obtain ⟨k2, i2, e2⟩ := fcI fc2 (.inr (.inl rfl))
  obtain ⟨k3, i3, e3⟩ := fcI fc3 (.inr (.inr rfl))
  have g1 := parseG_lines [fc1, fc2] (fun c hc => by
    simp only [List.mem_cons, List.not_mem_nil, or_false] at hc
    rcases hc with rfl | rfl
    · exact ⟨k1, i1⟩
    · exact ⟨k2, i2⟩)
  have g3 := parseG_lines [fc3] (fun c hc => by rw [List.mem_singleton] at hc; subst hc; exact ⟨k3, i3⟩)
  unfold parseV
  rw [hl, if_neg (by simp), hs, show [lineT fc1, lineT fc2, [35], lineT fc3] = [fc1, fc2].map lineT ++ ([[35]] ++ [fc3].map lineT) from rfl, parseG_app, parseG_app, g1, g3]
  simp only [Option.bind_some, List.map_cons, List.map_nil, e1, e2, e3]
  rfl
theorem f03 : parseV [102, 97, 108, 108, 32, 48, 51] = ([], 110) := by
  have hb := fall_bad [48, 51] (by decide) (by simp) (by decide) (fun m _ e => by have := itoa_zero_head e.symm; simp at this)
  rw [parse_one (s := [102, 97, 108, 108, 32, 48, 51]) (by decide) (by simp) (by decide) (by decide)]
  rw [if_neg (by rw [show ([102, 97, 108, 108, 32, 48, 51] : List UInt8) = bFall ++ 32 :: [48, 51] from rfl, hb]; simp)]
def fp1 : S36 := ⟨2, 0, 0, ⟨17, ⟨#[]⟩, ⟨#[]⟩, ⟨#[]⟩, [], 0, -1, []⟩, ⟨#[]⟩⟩
def fp2 : S36 := ⟨4, 0, 0, ⟨0, ⟨#[]⟩, ⟨#[]⟩, ⟨#[]⟩, [], 0, 0, []⟩, ⟨#[]⟩⟩
def fp3 : S36 := ⟨6, 0, 0, ⟨0, ⟨#[]⟩, ⟨#[]⟩, ⟨#[]⟩, [], 0, 0, []⟩, ⟨#[]⟩⟩
theorem flp1 : lineT fp1 = [102, 97, 108, 108, 32, 45, 49] := by
  have hs : stepL fp1.f3 = joinSp (⟨#[102, 97, 108, 108]⟩ :: [bs (Lib.itoa (-1))]) := rfl
  show (stepL fp1.f3).data.toList = _
  rw [hs, itoa_m1]
  decide +kernel
theorem flp2 : lineT fp2 = [100, 105, 103, 101, 115, 116] := rfl
theorem ftx : textT [fp1, fp2] = [102, 97, 108, 108, 32, 45, 49, 10, 100, 105, 103, 101, 115, 116, 10] := by
  show lineT fp1 ++ [10] ++ (lineT fp2 ++ [10] ++ []) = _
  rw [flp1, flp2]; rfl
theorem fprint : script_Print.f [fp1, fp2] = some (bs [102, 97, 108, 108, 32, 45, 49, 10, 100, 105, 103, 101, 115, 116, 10], 0) := by
  have hok : PrintOK [fp1, fp2] := by
    refine ⟨fun c hc => ?_, by rw [ftx]; decide⟩
    simp only [List.mem_cons, List.not_mem_nil, or_false] at hc
    rcases hc with rfl | rfl
    · exact ⟨I64_0, I64_0, I64_0, by unfold I64; decide, fun x hx => by simp [fp1] at hx, by rw [flp1]; decide⟩
    · exact ⟨I64_0, I64_0, I64_0, I64_0, fun x hx => by simp [fp2] at hx, by rw [flp2]; decide⟩
  have hv : printV [fp1, fp2] = ([102, 97, 108, 108, 32, 45, 49, 10, 100, 105, 103, 101, 115, 116, 10], 0) := by
    rw [printV_ok _ (fun c hc => by
      simp only [List.mem_cons, List.not_mem_nil, or_false] at hc
      rcases hc with rfl | rfl
      · exact .inr (.inl ⟨rfl, by decide, by decide⟩)
      · exact .inr (.inr (.inr (.inl rfl)))), ftx, if_neg (by decide +kernel)]
  unfold script_Print.f
  rw [if_pos hok, hv]
theorem fprint3 : script_Print.f [fp3] = some (bs [], 110) := by
  have hok : PrintOK [fp3] := by
    refine ⟨fun c hc => ?_, by decide +kernel⟩
    rw [List.mem_singleton] at hc; subst hc
    exact ⟨I64_0, I64_0, I64_0, I64_0, fun x hx => by simp [fp3] at hx, by decide +kernel⟩
  have hv : printV [fp3] = ([], 110) := printV_bad _ (fun h => absurd (h fp3 List.mem_cons_self) (by decide))
  unfold script_Print.f
  rw [if_pos hok, hv]
end Go.Proofs.YtdmlgligljagoaaDoor

set_option linter.unusedVariables false
set_option linter.unusedSimpArgs false
namespace Go.Proofs.YtdmlgligljagoaaDoor
open Go.RowKit Go.Proofs.YtdmlgligljagoaaDoorW.PrintWords PS
/-- a literal row that reads -/
theorem C_lit {α : Type} (d : Kd α) (W : World) (e : Nat) {xs : List α} {inner : List Value} (hrep : Reps (d.K W) d.sz xs inner) (hm : xs.length ≤ 9223372036854775807) :
    d.C (W.alloc (.cells inner.toArray e)) (some ⟨W.heap.size, 0, none⟩) xs.length xs := by
  have h2 := World.ownsRow_lit (base := W.heap.size) (e := e) (size := d.sz) W inner.toArray xs.length (Nat.le_refl _) (by simpa [maxLen] using hm) (by simpa using hrep.1)
  have h3 : OwnRow (d.K (W.alloc (.cells inner.toArray e))) e d.sz (W.alloc (.cells inner.toArray e)) W.heap.size (.slice (some ⟨W.heap.size, 0, none⟩) xs.length xs.length) xs :=
    ⟨inner, by simpa using h2, hrep.imp_ (fun p c hp => d.K_below (zae (Below.refl _ _) _) hp)⟩
  obtain ⟨A, c, he, _, hr⟩ := OwnRow.reads h3
  cases he
  exact hr
theorem M_K {α : Type} {d : Kd α} {W : World} {base : Nat} {ok : Nat → Prop} {xs : List α} {inner : List Value} (h : Reps (d.M W base ok) d.sz xs inner) : Reps (d.K W) d.sz xs inner := h.imp_ (fun _ _ hp => d.K_of_M hp)
theorem fl_row (W : World) : Reps (Kd.M k36 W W.heap.size (fun _ => True)) 12 [fp1, fp2] [.int .i64 2, .int .i64 0, .int .i64 0, .int .i64 17, .string ⟨#[]⟩, .string ⟨#[]⟩, .string ⟨#[]⟩, .slice none 0 0, .int .i64 0, .int .i64 (-1), .slice none 0 0, .string ⟨#[]⟩,
    .int .i64 4, .int .i64 0, .int .i64 0, .int .i64 0, .string ⟨#[]⟩, .string ⟨#[]⟩, .string ⟨#[]⟩, .slice none 0 0, .int .i64 0, .int .i64 0, .slice none 0 0, .string ⟨#[]⟩] := by
  refine Reps.front (k36_mkM W W.heap.size _ fp1 (v7 := .slice none 0 0) (v10 := .slice none 0 0) (Kd.R_nil _ _ _ _ _) (Kd.R_nil _ _ _ _ _)) rfl ?_ rfl
  exact Reps.front (k36_mkM W W.heap.size _ fp2 (v7 := .slice none 0 0) (v10 := .slice none 0 0) (Kd.R_nil _ _ _ _ _) (Kd.R_nil _ _ _ _ _)) rfl (Reps.none _ _) rfl
theorem fl_row3 (W : World) : Reps (Kd.M k36 W W.heap.size (fun _ => True)) 12 [fp3] [.int .i64 6, .int .i64 0, .int .i64 0, .int .i64 0, .string ⟨#[]⟩, .string ⟨#[]⟩, .string ⟨#[]⟩, .slice none 0 0, .int .i64 0, .int .i64 0, .slice none 0 0, .string ⟨#[]⟩] :=
  Reps.front (k36_mkM W W.heap.size _ fp3 (v7 := .slice none 0 0) (v10 := .slice none 0 0) (Kd.R_nil _ _ _ _ _) (Kd.R_nil _ _ _ _ _)) rfl (Reps.none _ _) rfl
def fq1 : S57 := toldC fc1
def fq2 : S57 := toldC fc2
def fq3 : S57 := toldC fc3
theorem fq_row (W : World) (gm gk : Nat) (h4 : Kd.C k38 W (some ⟨gm, 0, none⟩) 1 [⟨⟨#[116]⟩, ⟨#[120]⟩⟩]) (h7 : Kd.C (Kd.int .i64) W (some ⟨gk, 0, none⟩) 2 [0, 2]) :
    Reps (Kd.K k57 W) 12 [fq1, fq2, fq3] [.int .i64 2, .int .i64 0, .int .i64 0, .int .i64 1, .string ⟨#[97]⟩, .string ⟨#[]⟩, .string ⟨#[]⟩, .slice none 0 0, .int .i64 0, .int .i64 0, .slice none 0 0, .string ⟨#[]⟩,
    .int .i64 2, .int .i64 0, .int .i64 0, .int .i64 3, .string ⟨#[97]⟩, .string ⟨#[107]⟩, .string ⟨#[100]⟩, .slice (some ⟨gm, 0, none⟩) 1 1, .int .i64 0, .int .i64 0, .slice none 0 0, .string ⟨#[]⟩,
    .int .i64 2, .int .i64 0, .int .i64 0, .int .i64 18, .string ⟨#[]⟩, .string ⟨#[]⟩, .string ⟨#[]⟩, .slice none 0 0, .int .i64 0, .int .i64 3, .slice (some ⟨gk, 0, none⟩) 2 2, .string ⟨#[]⟩] := by
  have n4 : Kd.C k38 W none 0 [] := Kd.C_nil _ _
  have n7 : Kd.C (Kd.int .i64) W none 0 [] := Kd.C_nil _ _
  refine Reps.front (k57_mk W fq1 (A7 := none) (c7 := 0) (Nat.le_refl _) n4 (A10 := none) (c10 := 0) (Nat.le_refl _) n7) rfl ?_ rfl
  refine Reps.front (k57_mk W fq2 (A7 := some ⟨gm, 0, none⟩) (c7 := 1) (Nat.le_refl _) h4 (A10 := none) (c10 := 0) (Nat.le_refl _) n7) rfl ?_ rfl
  exact Reps.front (k57_mk W fq3 (A7 := none) (c7 := 0) (Nat.le_refl _) n4 (A10 := some ⟨gk, 0, none⟩) (c10 := 2) (Nat.le_refl _) h7) rfl (Reps.none _ _) rfl
attribute [local go_sem] zau bs_append zbj
set_option maxRecDepth 100000 in
set_option maxHeartbeats 4000000 in
theorem first_w (w : World) (hT : Tab w) : Calls Tryd.prog 16 #[] w fun e w' => e = .returned (.bool true) ∧ Below w.heap.size w w' := by
  obtain ⟨k1, hk1⟩ := parse_is ftext
  rw [fparse] at hk1
  obtain ⟨k2, hk2⟩ := parse_is [102, 97, 108, 108, 32, 48, 51]
  rw [f03] at hk2
  obtain ⟨k3, hk3⟩ := quote_is [0, 34, 97] (by decide)
  rw [show quoteL [0, 34, 97] = [34, 92, 120, 48, 48, 92, 34, 97, 34] from by decide +kernel] at hk3
  obtain ⟨k4, hk4⟩ := Ev.rounds (told_ev [fc1, fc2, fc3] (parse_short fparse))
  have HK1 := Lib.hid hk1
  have HK2 := Lib.hid hk2
  have HK3 := Lib.hid hk3
  have HK4 := Lib.hid hk4
  have HT := Lib.hid hT
  clear hk1 hk2 hk3 hk4 hT
  go_enter Tryd.func16, Tryd.ntmps16
  go_wp2_with fail
  refine (script_Parse.calls k1 (bs ftext) [fc1, fc2, fc3] 0 _ HT.out HK1.out).mono ?_
  rintro e w1 ⟨v1, rfl, hS1, hb1⟩
  obtain ⟨g1, c1, rfl, _⟩ := Kd.S_form hS1 (show 0 < 3 by decide)
  obtain ⟨_, hl1, hC1⟩ := Kd.S_reads' hS1
  have HB1 := Lib.hid hb1
  have HC1 := Lib.hid hC1
  have HL1 := Lib.hid hl1
  clear hS1 hb1 hC1 hl1
  go_wp2_with fail
  refine (script_Parse.calls k2 (bs [102, 97, 108, 108, 32, 48, 51]) [] 110 _ (zaz HT.out HB1.out) HK2.out).mono ?_
  rintro e w2 ⟨v2, rfl, _, hb2⟩
  have HC2 := Lib.hid (Kd.C_below HC1.out hb2)
  have HB2 := Lib.hid (HB1.out.trans (hb2.mono HB1.out.size))
  clear hb2 HC1
  go_wp2_with fail
  have hba := HB2.out.alloc HB2.out.size (.cells #[.int .i64 2, .int .i64 0, .int .i64 0, .int .i64 17, .string ⟨#[]⟩, .string ⟨#[]⟩, .string ⟨#[]⟩, .slice none 0 0, .int .i64 0, .int .i64 (-1), .slice none 0 0, .string ⟨#[]⟩,
    .int .i64 4, .int .i64 0, .int .i64 0, .int .i64 0, .string ⟨#[]⟩, .string ⟨#[]⟩, .string ⟨#[]⟩, .slice none 0 0, .int .i64 0, .int .i64 0, .slice none 0 0, .string ⟨#[]⟩] 36)
  have HBa := Lib.hid hba
  refine (script_Print.calls (some ⟨w2.heap.size, 0, none⟩) 2 [fp1, fp2] _ 0 _ (C_lit k36 w2 36 (M_K (fl_row w2)) (show 2 ≤ 9223372036854775807 by decide)) (Nat.le_refl 2) (zaz HT.out hba) fprint).mono ?_
  clear hba
  rintro e w3 ⟨rfl, hb3⟩
  have HB3 := Lib.hid (HBa.out.trans (hb3.mono HBa.out.size))
  have HC3 := Lib.hid (Kd.C_below (Kd.C_alloc HC2.out _) hb3)
  clear hb3 HBa HC2
  go_wp2_with fail
  have hba := HB3.out.alloc HB3.out.size (.cells #[.int .i64 6, .int .i64 0, .int .i64 0, .int .i64 0, .string ⟨#[]⟩, .string ⟨#[]⟩, .string ⟨#[]⟩, .slice none 0 0, .int .i64 0, .int .i64 0, .slice none 0 0, .string ⟨#[]⟩] 36)
  have HBa := Lib.hid hba
  refine (script_Print.calls (some ⟨w3.heap.size, 0, none⟩) 1 [fp3] _ 110 _ (C_lit k36 w3 36 (M_K (fl_row3 w3)) (show 1 ≤ 9223372036854775807 by decide)) (Nat.le_refl 1) (zaz HT.out hba) fprint3).mono ?_
  clear hba
  rintro e w4 ⟨rfl, hb4⟩
  have HB4 := Lib.hid (HBa.out.trans (hb4.mono HBa.out.size))
  have HC4 := Lib.hid (Kd.C_below (Kd.C_alloc HC3.out _) hb4)
  clear hb4 HBa HC3
  go_wp2_with fail
  refine (script_Quote.calls k3 (bs [0, 34, 97]) (bs [34, 92, 120, 48, 48, 92, 34, 97, 34]) _ HK3.out).mono ?_
  rintro e w5 ⟨rfl, hb5⟩
  have HB5 := Lib.hid (HB4.out.trans (hb5.mono HB4.out.size))
  have HC5 := Lib.hid (Kd.C_below HC4.out hb5)
  clear hb5 HC4
  have h4 : Kd.C k38 (w5.alloc (.cells #[.string ⟨#[116]⟩, .string ⟨#[120]⟩] 38)) (some ⟨w5.heap.size, 0, none⟩) 1 [⟨⟨#[116]⟩, ⟨#[120]⟩⟩] := C_lit k38 w5 38 (Reps.front (k38_mk w5 ⟨⟨#[116]⟩, ⟨#[120]⟩⟩) rfl (Reps.none _ _) rfl) (by decide)
  have h7 := C_lit (Kd.int .i64) (w5.alloc (.cells #[.string ⟨#[116]⟩, .string ⟨#[120]⟩] 38)) 3 (xs := [0, 2]) (inner := [.int .i64 0, .int .i64 2]) (Reps.front (p := (0 : Int)) (c := [.int .i64 0]) rfl rfl (Reps.front (p := (2 : Int)) (c := [.int .i64 2]) rfl rfl (Reps.none _ _) rfl) rfl) (by decide)
  rw [World.size_alloc] at h7
  have hQ := C_lit k57 ((w5.alloc (.cells #[.string ⟨#[116]⟩, .string ⟨#[120]⟩] 38)).alloc (.cells #[.int .i64 0, .int .i64 2] 3)) 57 (fq_row _ w5.heap.size (w5.heap.size + 1) (Kd.C_alloc h4 _) h7) (by decide)
  rw [World.size_alloc, World.size_alloc] at hQ
  have HQ := Lib.hid hQ
  have HBq := Lib.hid (((HB5.out.alloc HB5.out.size (.cells #[.string ⟨#[116]⟩, .string ⟨#[120]⟩] 38)).alloc (by rw [World.size_alloc]; have := HB5.out.size; omega) (.cells #[.int .i64 0, .int .i64 2] 3)).alloc (by rw [World.size_alloc, World.size_alloc]; have := HB5.out.size; omega) (.cells #[.int .i64 2, .int .i64 0, .int .i64 0, .int .i64 1, .string ⟨#[97]⟩, .string ⟨#[]⟩, .string ⟨#[]⟩, .slice none 0 0, .int .i64 0, .int .i64 0, .slice none 0 0, .string ⟨#[]⟩,
    .int .i64 2, .int .i64 0, .int .i64 0, .int .i64 3, .string ⟨#[97]⟩, .string ⟨#[107]⟩, .string ⟨#[100]⟩, .slice (some ⟨w5.heap.size, 0, none⟩) 1 1, .int .i64 0, .int .i64 0, .slice none 0 0, .string ⟨#[]⟩,
    .int .i64 2, .int .i64 0, .int .i64 0, .int .i64 18, .string ⟨#[]⟩, .string ⟨#[]⟩, .string ⟨#[]⟩, .slice none 0 0, .int .i64 0, .int .i64 3, .slice (some ⟨w5.heap.size + 1, 0, none⟩) 2 2, .string ⟨#[]⟩] 57))
  clear h4 h7 hQ
  go_wp2_with fail
  refine (cofferlaw22_told.calls k4 (some ⟨g1, 0, none⟩) c1 [fc1, fc2, fc3] _ _ (Kd.C_alloc (Kd.C_alloc (Kd.C_alloc HC5.out _) _) _) HL1.out HK4.out).mono ?_
  rintro e w6 ⟨v6, rfl, hS6, hb6⟩
  have HB6 := Lib.hid (HBq.out.trans (hb6.mono HBq.out.size))
  obtain ⟨A6, c6, rfl, hl6, hC6⟩ := Kd.R_reads (Kd.S_R hS6)
  have HS := Lib.hid (sameC_any [fq1, fq2, fq3] [fq1, fq2, fq3] A6 _ c6 3 w6 hC6 (Kd.C_below HQ.out hb6) hl6 (Nat.le_refl 3) (fun x hx => by
    simp only [List.mem_cons, List.not_mem_nil, or_false] at hx
    rcases hx with rfl | rfl | rfl <;> exact ⟨by decide, by decide⟩))
  clear hS6 hb6 hC6 hl6
  go_wp2_with fail
  refine HS.out.mono ?_
  rintro e w7 ⟨rfl, hb7⟩
  have HB7 := Lib.hid (HB6.out.trans (hb7.mono HB6.out.size))
  clear hb7
  go_wp2
  go_ret
  exact ⟨rfl, HB7.out⟩
end Go.Proofs.YtdmlgligljagoaaDoor

set_option linter.unusedVariables false
set_option linter.unusedSimpArgs false
namespace Go.Proofs.YtdmlgligljagoaaDoor
open Go.RowKit Go.Proofs.YtdmlgligljagoaaDoorW.PrintWords PS
/-- commands of the call's own, told as the document's -/
theorem told_w (m : List S36) (Q : List S57) (hq : m.map toldC = Q) (A : Option Addr) (c : Nat) (W : World) (hC : Kd.C k36 W A m.length m) (hc : m.length ≤ c) (hs : Short m) :
    Calls Tryd.prog 15 #[.slice A m.length c] W fun e w' => ∃ A' c', e = .returned (.slice A' Q.length c') ∧ Q.length ≤ c' ∧ Kd.C k57 w' A' Q.length Q ∧ Below W.heap.size W w' := by
  subst hq
  obtain ⟨k, hk⟩ := Ev.rounds (told_ev m hs)
  refine (cofferlaw22_told.calls k A c m (m.map toldC) W hC hc hk).mono ?_
  rintro e w' ⟨v, rfl, hS, hb⟩
  obtain ⟨A', c', rfl, h1, h2⟩ := Kd.R_reads (Kd.S_R hS)
  exact ⟨A', c', rfl, h1, h2, hb⟩
theorem given_w (l : List S57) (A : Option Addr) (c : Nat) (W : World) (hC : Kd.C k57 W A l.length l) (hc : l.length ≤ c) (hw : (l.map wC).sum ≤ 1048576) :
    Calls Tryd.prog 9 #[.slice A l.length c] W fun e w' => ∃ A' c', e = .returned (.slice A' (l.map givnC).length c') ∧ (l.map givnC).length ≤ c' ∧ Kd.C k36 w' A' (l.map givnC).length (l.map givnC) ∧ Below W.heap.size W w' := by
  obtain ⟨k, hk⟩ := given_is l hw
  refine (cofferlaw22_given.calls k A c l (l.map givnC) W hC hc hk).mono ?_
  rintro e w' ⟨v, rfl, hS, hb⟩
  obtain ⟨A', c', rfl, h1, h2⟩ := Kd.N_reads hS
  exact ⟨A', c', rfl, h1, h2, hb⟩
theorem parse_w (s : List UInt8) (m : List S36) (e0 : Int) (h : parseV s = (m, e0)) (W : World) (hT : Tab W) :
    Calls Tryd.prog 18 #[.string (bs s)] W fun e w' => ∃ A' c', e = .returned (.tuple #[.slice A' m.length c', .int .i64 e0]) ∧ m.length ≤ c' ∧ Kd.C k36 w' A' m.length m ∧ Below W.heap.size W w' := by
  obtain ⟨k, hk⟩ := parse_is s
  rw [h] at hk
  refine (script_Parse.calls k (bs s) m e0 W hT hk).mono ?_
  rintro e w' ⟨v, rfl, hS, hb⟩
  obtain ⟨A', c', rfl, h1, h2⟩ := Kd.R_reads (Kd.S_R hS)
  exact ⟨A', c', rfl, h1, h2, hb⟩
theorem same_w (l m : List S57) (A B : Option Addr) (c d : Nat) (b : Bool) (hb : decide (l = m) = b) (W : World) (hC : Kd.C k57 W A l.length l) (hD : Kd.C k57 W B m.length m) (hc : l.length ≤ c) (hd : m.length ≤ d) (hs : ∀ x ∈ l, x.f3.f4.length ≤ 4294967296 ∧ x.f3.f7.length ≤ 4294967296) :
    Calls Tryd.prog 19 #[.slice A l.length c, .slice B m.length d] W fun e w' => e = .returned (.bool b) ∧ Below W.heap.size W w' := by
  subst hb
  exact sameC_any l m A B c d W hC hD hc hd (fun x hx => by have := hs x hx; omega)
end Go.Proofs.YtdmlgligljagoaaDoor

set_option linter.unusedVariables false
set_option linter.unusedSimpArgs false
namespace Go.Proofs.YtdmlgligljagoaaDoor
open Go.RowKit Go.Proofs.YtdmlgligljagoaaDoorW.PrintWords PS
attribute [local go_sem] zau bs_append zbj
theorem parse_some (s : List UInt8) : ∃ M e, parseV s = (M, e) ∧ (∀ c ∈ M, Clean 8192 c) ∧ M.length ≤ 1024 ∧ Short M := by
  obtain ⟨⟨M, e⟩, h⟩ : ∃ q, parseV s = q := ⟨_, rfl⟩
  by_cases he : e = 0
  · subst he
    obtain ⟨h1, h2⟩ := parse_clean h
    exact ⟨M, 0, h, h1, h2, parse_short h⟩
  · obtain ⟨rfl, _⟩ := parse_err h he
    exact ⟨[], e, h, by simp, by simp, by simp [Short]⟩
theorem parse_S (s : List UInt8) (m : List S36) (e0 : Int) (h : parseV s = (m, e0)) (W : World) (hT : Tab W) :
    Calls Tryd.prog 18 #[.string (bs s)] W fun e w' => ∃ A' c', e = .returned (.tuple #[.slice A' m.length c', .int .i64 e0]) ∧ Kd.S k36 36 w' W.heap.size (fun k => W.heap.size ≤ k ∧ k < w'.heap.size) (.slice A' m.length c') m ∧ Below W.heap.size W w' := by
  obtain ⟨k, hk⟩ := parse_is s
  rw [h] at hk
  refine (script_Parse.calls k (bs s) m e0 W hT hk).mono ?_
  rintro e w' ⟨v, rfl, hS, hb⟩
  obtain ⟨A', c', rfl⟩ := Kd.S_slice hS
  exact ⟨A', c', rfl, Kd.S_mono (Kd.S_bound hS) (fun k hk => ⟨hk.2.1, hk.2.2.1⟩), hb⟩
theorem told_S (m : List S36) (Q : List S57) (hq : m.map toldC = Q) (A : Option Addr) (c : Nat) (W : World) (hC : Kd.C k36 W A m.length m) (hc : m.length ≤ c) (hs : Short m) :
    Calls Tryd.prog 15 #[.slice A m.length c] W fun e w' => ∃ A' c', e = .returned (.slice A' Q.length c') ∧ Kd.S k57 57 w' W.heap.size (fun k => W.heap.size ≤ k ∧ k < w'.heap.size) (.slice A' Q.length c') Q ∧ Below W.heap.size W w' := by
  subst hq
  obtain ⟨k, hk⟩ := Ev.rounds (told_ev m hs)
  refine (cofferlaw22_told.calls k A c m (m.map toldC) W hC hc hk).mono ?_
  rintro e w' ⟨v, rfl, hS, hb⟩
  obtain ⟨A', c', rfl⟩ := Kd.S_slice hS
  exact ⟨A', c', rfl, Kd.S_mono (Kd.S_bound hS) (fun k hk => ⟨hk.2.1, hk.2.2.1⟩), hb⟩
theorem clean_n {M : List S36} (h : ∀ c ∈ M, Clean 8192 c) (i : Nat) (hi : i < M.length) : (gd M i).f3.f4.length ≤ 1048576 ∧ (gd M i).f3.f7.length ≤ 1048576 := by
  have e : gd M i = M[i] := by unfold gd; simp [hi]
  rw [e]
  have := (h _ (List.getElem_mem hi)).st
  have h4 := this.n4
  have h7 := this.n7
  omega
set_option maxRecDepth 100000 in
set_option maxHeartbeats 8000000 in
theorem scriptApart_any (l : List S57) (A : Option Addr) (c : Nat) (w : World) (hC : Kd.C k57 w A l.length l) (hc : l.length ≤ c) (hw : (l.map wC).sum ≤ 1048576) (hI : ∀ x ∈ l, CmIn x) (hT : Tab w) :
    Calls Tryd.prog 8 #[.slice A l.length c] w fun e w' => e = .returned (.bool true) ∧ Below w.heap.size w w' := by
  have HF := Lib.hid (first_w w hT)
  have HT := Lib.hid hT
  have HPO := Lib.hid (given_print l hI hw)
  have HGv := Lib.hid (fun W (hb : Below w.heap.size w W) => given_w l A c W (Kd.C_below hC hb) hc hw)
  clear hT hC hI
  generalize l.map givnC = G at *
  go_enter Tryd.func8, Tryd.ntmps8
  go_wp2_with fail
  refine HF.out.mono ?_
  rintro e w1 ⟨rfl, hb1⟩
  have HB1 := Lib.hid hb1
  clear hb1 HF
  go_wp2_with fail
  refine (HGv.out _ HB1.out).mono ?_
  rintro e w2 ⟨A2, c2, rfl, hl2, hC2, hb2⟩
  have HB2 := Lib.hid (HB1.out.trans (hb2.mono HB1.out.size))
  have HP2 := Lib.hid (print_any G A2 c2 w2 hC2 hl2 (zaz HT.out HB2.out) HPO.out)
  clear hb2 hC2 hl2 HGv
  go_wp2_with fail
  refine HP2.out.mono ?_
  rintro e w3 ⟨rfl, hb3⟩
  have HB3 := Lib.hid (HB2.out.trans (hb3.mono HB2.out.size))
  clear hb3 HP2 HPO HB1 HB2
  generalize printV G = p at *
  obtain ⟨p1, p2⟩ := p
  dsimp only
  by_cases hp2 : p2 = 0
  · subst hp2
    obtain ⟨M, e2, hPT, hcl, hM4, hsh⟩ := parse_some p1
    have HPT := Lib.hid hPT
    have hlens := clean_n hcl
    have HLn := Lib.hid hlens
    have HSh := Lib.hid hsh
    obtain ⟨Q, hQ⟩ : ∃ Q, M.map toldC = Q := ⟨_, rfl⟩
    have hQl : Q.length = M.length := by rw [← hQ, List.length_map]
    have HQs := Lib.hid (show ∀ c ∈ Q, c.f3.f4.length ≤ 4294967296 ∧ c.f3.f7.length ≤ 4294967296 by rw [← hQ]; exact told_short hsh)
    have HQ := Lib.hid hQ
    have HQl := Lib.hid hQl
    clear hPT hcl hlens hsh hQ hQl
    go_wp2_with fail
    refine (parse_S p1 M e2 HPT.out w3 (zaz HT.out HB3.out)).mono ?_
    rintro e w4 ⟨A4, c4, rfl, hS4, hb4⟩
    have HS4 := Lib.hid hS4
    have HB34 := Lib.hid hb4
    have HB4 := Lib.hid (HB3.out.trans (hb4.mono HB3.out.size))
    clear hS4 hb4
    go_wp2_with fail
    refine (parse_S p1 M e2 HPT.out w4 (zaz HT.out HB4.out)).mono ?_
    rintro e w5 ⟨A5, c5, rfl, hS5, hb5⟩
    have HR5 := Lib.hid (Kd.S_reads' hS5)
    have HS5 := Lib.hid hS5
    have HB45 := Lib.hid hb5
    have HB5 := Lib.hid (HB4.out.trans (hb5.mono HB4.out.size))
    clear hS5 hb5
    go_wp2_with fail
    refine (told_S M Q HQ.out A5 c5 w5 HR5.out.2.2 HR5.out.2.1 HSh.out).mono ?_
    rintro e w6 ⟨A6, c6, rfl, hS6, hb6⟩
    have HS6 := Lib.hid hS6
    have HB56 := Lib.hid hb6
    have HB6 := Lib.hid (HB5.out.trans (hb6.mono HB5.out.size))
    have hR4 := Kd.S_reads' (Kd.S_below (Kd.S_below HS4.out HB45.out) hb6)
    have HR4 := Lib.hid hR4
    clear hS6 hb6 hR4
    go_wp2_with fail
    refine (told_w M Q HQ.out A4 c4 w6 HR4.out.2.2 HR4.out.2.1 HSh.out).mono ?_
    rintro e w7 ⟨A7, c7, rfl, hl7, hC7, hb7⟩
    have HB67 := Lib.hid hb7
    have HB7 := Lib.hid (HB6.out.trans (hb7.mono HB6.out.size))
    have hR6 := Kd.S_reads' (Kd.S_below HS6.out hb7)
    have HSm := Lib.hid (same_w Q Q A7 A6 c7 c6 true (decide_eq_true rfl) w7 hC7 hR6.2.2 hl7 hR6.2.1 HQs.out)
    clear hl7 hC7 hb7 hR6
    go_wp2_with fail
    refine HSm.out.mono ?_
    rintro e w8 ⟨rfl, hb8⟩
    have HB8 := Lib.hid (HB7.out.trans (hb8.mono HB7.out.size))
    have HB78 := Lib.hid hb8
    have HA8 : Hid (Ap w3 w8 w8 w4.heap.size w8.heap.size (.slice A4 M.length c4) M) := Lib.hid ⟨Kd.S_mono (Kd.S_below (Kd.S_below (Kd.S_below (Kd.S_below HS4.out HB45.out) HB56.out) HB67.out) hb8) (fun k hk => .inl hk.2), fun _ _ _ => rfl, (((HB34.out.trans (HB45.out.mono HB34.out.size)).trans (HB56.out.mono (Nat.le_trans HB34.out.size HB45.out.size))).trans (HB67.out.mono (Nat.le_trans (Nat.le_trans HB34.out.size HB45.out.size) HB56.out.size))).trans (hb8.mono (Nat.le_trans (Nat.le_trans (Nat.le_trans HB34.out.size HB45.out.size) HB56.out.size) HB67.out.size)), Nat.le_refl _⟩
    have HP8 := Lib.hid (pm_start M)
    have HS5m : Hid (Kd.S k36 36 w8 w4.heap.size (fun k => w4.heap.size ≤ k ∧ k < w8.heap.size) (.slice A5 M.length c5) M) := Lib.hid (Kd.S_mono (Kd.S_below (Kd.S_below (Kd.S_below HS5.out HB56.out) HB67.out) hb8) (fun k hk => ⟨hk.1, Nat.lt_of_lt_of_le hk.2 (Nat.le_trans (Nat.le_trans HB56.out.size HB67.out.size) hb8.size)⟩))
    have HS6m : Hid (Kd.S k57 57 w8 w5.heap.size (fun k => w4.heap.size ≤ k ∧ k < w8.heap.size) (.slice A6 Q.length c6) Q) := Lib.hid (Kd.S_mono (Kd.S_below (Kd.S_below HS6.out HB67.out) hb8) (fun k hk => ⟨Nat.le_trans HB45.out.size hk.1, Nat.lt_of_lt_of_le hk.2 (Nat.le_trans HB67.out.size hb8.size)⟩))
    clear hb8 HSm HR4 HR5
    go_wp2_with fail
    clear HB5 HB6 HB7
    go_loopg [10] M.length (fun gk u10 wx => ∃ (i : Nat) (xs : List S36), i + gk = M.length ∧ u10 = .int .i64 (i : Int) ∧ Hid (Ap w3 w8 wx w4.heap.size w8.heap.size (.slice A4 M.length c4) xs) ∧ Hid (Pm M xs i (gr4 0) (gr7 0) or4 or7 (or4 (gd M i)) (or7 (gd M i))))
    case atStart => exact ⟨0, M, by omega, rfl, HA8, HP8⟩
    case round =>
      obtain ⟨i, xs, hig, rfl, HA, HP⟩ := hrel
      cases gk with
      | zero =>
        obtain rfl : i = M.length := by omega
        have hpt := (HP.out.turn (F2 := gr4 8) (G2 := gr7 8))
        have HPt := Lib.hid hpt
        clear hpt HA8 HP8
        go_wp2
        go_loopg [13] M.length (fun gk u13 wx => ∃ (i : Nat) (xs : List S36), i + gk = M.length ∧ u13 = .int .i64 (i : Int) ∧ Hid (Ap w3 w8 wx w4.heap.size w8.heap.size (.slice A4 M.length c4) xs) ∧ Hid (Pm M xs i (gr4 8) (gr7 8) (gr4 0) (gr7 0) (gr4 0 (gd M i)) (gr7 0 (gd M i))))
        case atStart => exact ⟨0, xs, by omega, rfl, HA, HPt⟩
        case round =>
          obtain ⟨i, xs, hig, rfl, HA, HP⟩ := hrel
          cases gk with
          | zero =>
            obtain rfl : i = M.length := by omega
            have HLo := Lib.hid HP.out.lo
            have HXl := Lib.hid HP.out.len
            clear HP
            go_wp2
            go_loopg [15] M.length (fun gk u15 wx => ∃ i : Nat, i + gk = M.length ∧ u15 = .int .i64 (i : Int) ∧ Hid (Ap w3 w8 wx w4.heap.size w8.heap.size (.slice A4 M.length c4) xs))
            case atStart => exact ⟨0, by omega, rfl, HA⟩
            case round =>
              obtain ⟨i, hig, rfl, HA⟩ := hrel
              cases gk with
              | zero =>
                obtain rfl : i = M.length := by omega
                obtain ⟨rows, hrl, hAr⟩ := HA.out.raw
                rw [HXl.out] at hrl
                have HRl := Lib.hid hrl
                have HAr := Lib.hid hAr
                clear hrl hAr HA HLo HXl
                go_wp2
                go_loopg [20] M.length (fun gk u20 wx => ∃ (i : Nat) (rows : List (List Value)), i + gk = M.length ∧ u20 = .int .i64 (i : Int) ∧ Hid (rows.length = M.length) ∧ Hid (Ar w3 w8 wx w4.heap.size w8.heap.size (.slice A4 M.length c4) rows))
                case atStart => exact ⟨0, rows, by omega, rfl, HRl, HAr⟩
                case round =>
                  obtain ⟨i, rows, hig, rfl, HRl, HAr⟩ := hrel
                  cases gk with
                  | zero =>
                    obtain rfl : i = M.length := by omega
                    go_wp2
                    go_loopg [5, 21] 8 (fun gk u5 u21 wx => ∃ (k : Nat) (rows : List (List Value)), k + gk = 8 ∧ u21 = .int .i64 (k : Int) ∧ Hid (rows.length = M.length + k) ∧ Hid (Ar w3 w8 wx w4.heap.size w8.heap.size u5 rows))
                    case atStart => exact ⟨0, rows, by omega, rfl, HRl, HAr⟩
                    case round =>
                      obtain ⟨k, rows, hkg, rfl, HRl, HAr⟩ := hrel
                      cases gk with
                      | zero =>
                        obtain rfl : k = 8 := by omega
                        obtain ⟨Av, cv, rfl⟩ := Kd.R_slice HAr.out.r
                        have HBr := Lib.hid (HB3.out.trans (HAr.out.below.mono HB3.out.size))
                        have HS5r := Lib.hid (HAr.out.other HS5m.out)
                        have HS6r := Lib.hid (HAr.out.other HS6m.out)
                        have hrl := HRl.out
                        clear HRl HAr
                        generalize rows.length = n at *
                        subst hrl
                        clear HS5m HS6m HS5 HS6 HB34 HB45 HB56 HB67 HB78 HS4
                        go_wp2_with fail
                        refine (parse_w p1 M e2 HPT.out wr (zaz HT.out HBr.out)).mono ?_
                        rintro e w12 ⟨A12, c12', rfl, hl12, hC12, hb12⟩
                        have HB12 := Lib.hid (HBr.out.trans (hb12.mono HBr.out.size))
                        have hS5 := Kd.S_reads' (Kd.S_below HS5r.out hb12)
                        have HC6 := Lib.hid (Kd.S_below HS6r.out hb12)
                        have HT5 := Lib.hid (told_w M Q HQ.out A5 c5 w12 hS5.2.2 hS5.2.1 HSh.out)
                        have HC12 := Lib.hid hC12
                        have HL12 := Lib.hid hl12
                        clear hl12 hC12 hb12 hS5 HS5r HS6r
                        go_wp2_with fail
                        refine HT5.out.mono ?_
                        rintro e w13 ⟨A13, c13, rfl, hl13, hC13, hb13⟩
                        have HB13 := Lib.hid (HB12.out.trans (hb13.mono HB12.out.size))
                        have HC13 := Lib.hid (Kd.C_below HC12.out hb13)
                        have HD13 := Lib.hid (Kd.S_below HC6.out hb13)
                        have hQ13 := Kd.S_reads' HD13.out
                        have HSa := Lib.hid (same_w Q Q A13 A6 c13 c6 true (decide_eq_true rfl) w13 hC13 hQ13.2.2 hl13 hQ13.2.1 HQs.out)
                        clear hl13 hC13 hb13 hQ13 HC6 HC12 HT5
                        go_wp2_with fail
                        refine HSa.out.mono ?_
                        rintro e w14 ⟨rfl, hb14⟩
                        have HB14 := Lib.hid (HB13.out.trans (hb14.mono HB13.out.size))
                        have HT14 := Lib.hid (told_w M Q HQ.out A12 c12' w14 (Kd.C_below HC13.out hb14) HL12.out HSh.out)
                        have HD14 := Lib.hid (Kd.S_below HD13.out hb14)
                        clear hb14 HSa HC13 HD13
                        go_wp2_with fail
                        refine HT14.out.mono ?_
                        rintro e w15 ⟨A15, c15, rfl, hl15, hC15, hb15⟩
                        have HB15 := Lib.hid (HB14.out.trans (hb15.mono HB14.out.size))
                        have hQ15 := Kd.S_reads' (Kd.S_below HD14.out hb15)
                        have HSb := Lib.hid (same_w Q Q A15 A6 c15 c6 true (decide_eq_true rfl) w15 hC15 hQ15.2.2 hl15 hQ15.2.1 HQs.out)
                        clear hl15 hC15 hb15 hQ15 HD14 HT14
                        go_wp2_with fail
                        refine HSb.out.mono ?_
                        rintro e w16 ⟨rfl, hb16⟩
                        have HB16 := Lib.hid (HB15.out.trans (hb16.mono HB15.out.size))
                        have hq := HQl.out
                        clear hb16 HSb
                        go_wp2
                        go_ret
                        exact ⟨rfl, HB16.out⟩
                      | succ gi =>
                        have hk : k < 8 := by omega
                        have b2 : decide ((k : Int) < 8) = true := by simp; omega
                        have hsz := HAr.out.below.size
                        have hlen : (rows.length + 1) * 160 ≤ 140737488355328 := by rw [HRl.out]; omega
                        have HLe := Lib.hid hlen
                        clear hlen
                        go_wp2_with (at_builtin; refine Kd.R_append (Kd.raw 12) (w0 := w3) w3.heap.size rfl (.tmp 230) (.tmp 232) 23 36 _ 160 rfl Tryd.underlying23 info36 rfl (by decide) (by decide) u5 rows [.int .i64 (-2), .int .i64 0, .int .i64 0, .int .i64 0, .string ⟨#[]⟩, .string ⟨#[]⟩, .string ⟨#[]⟩, .slice none 0 0, .int .i64 0, .int .i64 0, .slice none 0 0, .string ⟨#[]⟩] [.int .i64 (-2), .int .i64 0, .int .i64 0, .int .i64 0, .string ⟨#[]⟩, .string ⟨#[]⟩, .string ⟨#[]⟩, .slice none 0 0, .int .i64 0, .int .i64 0, .slice none 0 0, .string ⟨#[]⟩] (okA w4.heap.size w8.heap.size) (fun _ => False) rfl ?c0 ?c3 (fun _ hk => hk.elim) (fun k_ hk_ => .inr (Nat.le_trans HAr.out.size hk_)) HAr.out.r HAr.out.below ?c1 HLe.out ?_; (case c0 => first | rfl | (simp [Act.eval, go_sem]; done)); (case c3 => exact ⟨rfl, rfl, by simp [Value.oneCell']⟩); (case c1 => exact hsz); intro v9 w9 hR9 hB9 hg9 hat9; have HN := Lib.hid (HAr.out.step hR9 hB9 hg9); clear hR9 hB9 hg9 hat9 hsz)
                        go_roundg gi
                        case measure => omega
                        case rel => exact ⟨k + 1, _, by omega, by go_num, Lib.hid (by rw [List.length_append, HRl.out]; rfl), HN⟩
                  | succ go =>
                    have hi : i < M.length := by omega
                    obtain ⟨g, cap, he, _⟩ := Kd.R_form HAr.out.r (by rw [HRl.out]; omega)
                    injection he with h1 h2 h3
                    subst h1 h3
                    clear h2
                    have b1 : (i : Int) < (M.length : Int) := by omega
                    obtain ⟨cc, hcl, _, hcc, hfz⟩ := Kd.R_elem HAr.out.r [] (i : Int) (by omega) (by omega)
                    go_wp2_with (refine Kd.R_store (Kd.raw 12) (w0 := w3) w3.heap.size rfl rfl 36 (.tmp 225) (.tmp 224) rfl 36 (i : Int) 0 rows [.int .i64 (-1), .int .i64 0, .int .i64 0, .int .i64 0, .string ⟨#[]⟩, .string ⟨#[]⟩, .string ⟨#[]⟩, .slice none 0 0, .int .i64 0, .int .i64 0, .slice none 0 0, .string ⟨#[]⟩] (.agg #[.int .i64 (-1), .int .i64 0, .int .i64 0, .int .i64 0, .string ⟨#[]⟩, .string ⟨#[]⟩, .string ⟨#[]⟩, .slice none 0 0, .int .i64 0, .int .i64 0, .slice none 0 0, .string ⟨#[]⟩]) [.int .i64 (-1), .int .i64 0, .int .i64 0, .int .i64 0, .string ⟨#[]⟩, .string ⟨#[]⟩, .string ⟨#[]⟩, .slice none 0 0, .int .i64 0, .int .i64 0, .slice none 0 0, .string ⟨#[]⟩] cc (okA w4.heap.size w8.heap.size) (fun _ => False) rfl ?s2 rfl rfl ?s5 ?s6 HAr.out.r (Int.natCast_nonneg i) ?s8 hcl hcc ?s9 ?s10 (fun _ hk => hk.elim) HAr.out.below ?_; (case s2 => show _ = (i : Int).toNat * 12 + 0; rw [Int.toNat_natCast]; omega); (case s5 => kernel_rfl); (case s6 => simp [Value.oneCell']); (case s8 => omega); (case s9 => show 0 + 12 ≤ 12; omega); (case s10 => exact ⟨by rw [List.take_zero, List.nil_append, List.drop_of_length_le (by rw [hcl]; exact Nat.le_refl _), List.append_nil], by rw [List.take_zero, List.nil_append, List.drop_of_length_le (by rw [hcl]; exact Nat.le_refl _), List.append_nil]; rfl, by rw [List.take_zero, List.nil_append, List.drop_of_length_le (by rw [hcl]; exact Nat.le_refl _), List.append_nil]; simp [Value.oneCell']⟩); intro w9 hR9 hB9 hg9; have HN := Lib.hid (HAr.out.step hR9 hB9 hg9); clear hR9 hB9 hg9)
                    go_roundg go
                    case measure => omega
                    case rel => exact ⟨i + 1, _, by omega, by go_num, Lib.hid (by rw [List.length_set]; exact HRl.out), HN⟩
              | succ go =>
                have hi : i < M.length := by omega
                obtain ⟨wo, rfl⟩ : ∃ wo : World, wo = wr := ⟨_, rfl⟩
                obtain ⟨g, cap, he, _⟩ := Kd.S_form HA.out.s (by rw [HXl.out]; omega)
                injection he with h1 h2 h3
                subst h1 h3
                clear h2
                have b1 : (i : Int) < (M.length : Int) := by omega
                have hQi : i < Q.length := by have := HQl.out; omega
                have b3 : (i : Int) < (Q.length : Int) := by omega
                obtain ⟨hm4, hm7⟩ := HLn.out i hi
                obtain ⟨z4, z7⟩ := HLo.out i hi hi
                obtain ⟨v7, v10, oki, e7, e10, r7, r10, _, _⟩ := HA.out.lend i hi
                rw [z4] at r7
                rw [z7] at r10
                have hq4 : (Q[i]'hQi).f3.f4.length = (gd M i).f3.f4.length ∧ (Q[i]'hQi).f3.f7.length = (gd M i).f3.f7.length := by
                  have e : Q[i]'hQi = toldC (gd M i) := by
                    have hh := HQ.out
                    subst hh
                    rw [List.getElem_map]
                    unfold gd
                    simp [hi]
                  rw [e]; exact ⟨rfl, rfl⟩
                obtain ⟨qd, B7, d7, B10, d10, hqd, _, _, _, _, _, _, _, q7, _, _, q10, _⟩ := at_T57 (Kd.S_reads' (HA.out.other HS6m.out)).2.2 (i : Int) (by omega) (by omega)
                rw [Int.toNat_natCast, rdQ_get Q i hQi] at q7 q10
                rw [hq4.1] at q7
                rw [hq4.2] at q10
                subst hqd
                have hl4 := gr4_len 8 (gd M i)
                have hl7 := gr7_len 8 (gd M i)
                have hg4 := fun j h => gr4_get (gd M i) j h
                have hg7 := fun j h => gr7_get (gd M i) j h
                obtain ⟨D7, f7', rfl⟩ := Kd.R_slice r7
                obtain ⟨D10, f10', rfl⟩ := Kd.R_slice r10
                have hc7 := (Kd.R_reads' r7).2.2
                have hc10 := (Kd.R_reads' r10).2.2
                have HC7 := Lib.hid hc7
                have HC10 := Lib.hid hc10
                have HG4 := Lib.hid hg4
                have HG7 := Lib.hid hg7
                clear z4 z7 r7 r10 hq4 hc7 hc10 hg4 hg7
                generalize (gd M i).f3.f4.length = m at *
                generalize (gd M i).f3.f7.length = m7 at *
                rw [hl4] at e7
                rw [hl7] at e10
                have HL4 := Lib.hid hl4
                have HL7 := Lib.hid hl7
                clear hl4 hl7
                go_wp2
                go_quiet (fail)
                go_wp2
                have t1 : ((⟨#[109, 97, 114, 107, 101, 100]⟩ : ByteArray).toList == (⟨#[109, 97, 114, 107, 101, 100]⟩ : ByteArray).toList) = true := by simp
                have t2 : ((⟨#[103, 114, 111, 119, 110]⟩ : ByteArray).toList == (⟨#[109, 97, 114, 107, 101, 100]⟩ : ByteArray).toList) = false := by decide +kernel
                go_loop [18] (fun v => ∃ j : Nat, j ≤ m + 8 ∧ v = .int .i64 (j : Int)) (fun v => m + 8 - (intOf v).toNat)
                case atStart => exact ⟨0, Nat.zero_le _, rfl⟩
                case round =>
                  obtain ⟨j, hj, rfl⟩ := hrel
                  by_cases hlt : j < m + 8
                  · have k1 : (j : Int) < (m : Int) + 8 := by omega
                    obtain ⟨ed, hed, n0, _⟩ := at_T38 HC7.out (j : Int) (by omega) (by rw [HL4.out]; omega)
                    subst hed
                    rw [Int.toNat_natCast, HG4.out j hlt] at n0
                    by_cases hjm : j < m
                    · rw [if_pos hjm] at n0
                      have n1 : wo.cell? (ed.add (j * 2)) = some (.string ⟨#[109, 97, 114, 107, 101, 100]⟩) := n0
                      have k2 : decide (j < m) = true := by simp; omega
                      clear n0 hjm
                      go_wp2
                      exact ⟨⟨j + 1, by omega, by go_num⟩, by simp [intOf]; omega⟩
                    · rw [if_neg hjm] at n0
                      have n1 : wo.cell? (ed.add (j * 2)) = some (.string ⟨#[103, 114, 111, 119, 110]⟩) := n0
                      have k2 : decide (j < m) = false := by simp; omega
                      clear n0 hjm
                      go_wp2
                      exact ⟨⟨j + 1, by omega, by go_num⟩, by simp [intOf]; omega⟩
                  · obtain rfl : j = m + 8 := by omega
                    go_wp2
                    go_loop [19] (fun v => ∃ j : Nat, j ≤ m7 + 8 ∧ v = .int .i64 (j : Int)) (fun v => m7 + 8 - (intOf v).toNat)
                    case atStart => exact ⟨0, Nat.zero_le _, rfl⟩
                    case round =>
                      obtain ⟨j, hj, rfl⟩ := hrel
                      by_cases hlt : j < m7 + 8
                      · have k1 : (j : Int) < (m7 : Int) + 8 := by omega
                        obtain ⟨ed, hed, n0⟩ := ReadsInt.at_ (readsInt_of.2 (Kd.reads_of_C HC10.out)) (j : Int) (by omega) (by rw [HL7.out]; omega)
                        subst hed
                        rw [Int.toNat_natCast, HG7.out j hlt] at n0
                        by_cases hjm : j < m7
                        · rw [if_pos hjm] at n0
                          have k2 : decide (j < m7) = true := by simp; omega
                          clear hjm
                          go_wp2
                          exact ⟨⟨j + 1, by omega, by go_num⟩, by simp [intOf]; omega⟩
                        · rw [if_neg hjm] at n0
                          have k2 : decide (j < m7) = false := by simp; omega
                          clear hjm
                          go_wp2
                          exact ⟨⟨j + 1, by omega, by go_num⟩, by simp [intOf]; omega⟩
                      · obtain rfl : j = m7 + 8 := by omega
                        go_wp2
                        go_roundg go
                        case measure => omega
                        case rel => exact ⟨i + 1, by omega, by go_num, Lib.hid (HA.out.drewN _)⟩
          | succ go =>
            have hi : i < M.length := by omega
            obtain ⟨wo, rfl⟩ : ∃ wo : World, wo = wr := ⟨_, rfl⟩
            obtain ⟨g, cap, he, _⟩ := Kd.S_form HA.out.s (by rw [HP.out.len]; omega)
            injection he with h1 h2 h3
            subst h1 h3
            have b1 : (i : Int) < (M.length : Int) := by omega
            obtain ⟨hm4, hm7⟩ := HLn.out i hi
            clear h2
            go_wp2
            go_loopg [14] 8 (fun gk u14 wx => ∃ (k : Nat) (xs : List S36), k + gk = 8 ∧ u14 = .int .i64 (k : Int) ∧ Hid (Ap w3 w8 wx w4.heap.size w8.heap.size (.slice (some ⟨g, 0, none⟩) M.length c4) xs) ∧ Hid (Pm M xs i (gr4 8) (gr7 8) (gr4 0) (gr7 0) (gr4 k (gd M i)) (gr7 k (gd M i))))
            case atStart => exact ⟨0, xs, by omega, rfl, HA, HP⟩
            case round =>
              obtain ⟨k, xs2, hkg, rfl, HA2, HP2⟩ := hrel
              cases gk with
              | zero =>
                obtain rfl : k = 8 := by omega
                go_wp2
                have HPe := Lib.hid HP2.out.next
                go_roundg go
                case measure => omega
                case rel => exact ⟨i + 1, xs2, by omega, by go_num, HA2, HPe⟩
              | succ gi =>
                have hk : k < 8 := by omega
                have b2 : decide ((k : Int) < 8) = true := by simp; omega
                obtain ⟨v7, v10, oki, e7, e10, hfr, r7, r10, f4, f7⟩ := HA2.out.grow i hi
                rw [(HP2.out.mid hi).1] at r7
                have hlen : ((gr4 k (gd M i)).length + 1) * 32 ≤ 140737488355328 := by rw [gr4_len]; omega
                have HR7 := Lib.hid r7
                have HF4 := Lib.hid f4
                have HFr := Lib.hid hfr
                have HLe := Lib.hid hlen
                have hsz := HA2.out.below.size
                clear r7 r10 f4 f7 hfr hlen
                go_wp2_with (first | (at_builtin; refine Kd.R_append k38 (w0 := w3) w3.heap.size rfl (.tmp 113) (.tmp 115) 31 38 _ 32 rfl Tryd.underlying31 info38 rfl (by decide) (by decide) v7 (gr4 k (gd M i)) pGrown [.string ⟨#[103, 114, 111, 119, 110]⟩, .string ⟨#[]⟩] oki (fun _ => False) rfl ?c0 (k38_mkM _ _ _ pGrown) (fun _ hk => hk.elim) HFr.out HR7.out HA2.out.below ?c1 HLe.out ?_; (case c0 => first | rfl | (simp [Act.eval, go_sem]; done)); (case c1 => exact hsz); intro v9 w9 hR9 hB9 hg9 hat9; obtain ⟨hH, hM9, hfin⟩ := HF4.out w9 v9 _ hg9 hR9; have HH := Lib.hid hH; have HM9 := Lib.hid hM9; have HFin := Lib.hid hfin; have HV9 := Lib.hid (Kd.R_val hR9); have HB9 := Lib.hid hB9; clear hR9 hB9 hg9 hat9 hH hM9 hfin e7 e10 hsz) | (refine Kd.H_store k36 (w0 := w3) w3.heap.size rfl rfl 31 (.tmp 119) (.tmp 116) rfl 36 (i : Int) 7 xs2 (put4 (gd xs2 i) (gr4 k (gd M i) ++ [pGrown])) v9 [v9] (c12 (gd xs2 i) v7 v10) (okA w4.heap.size w8.heap.size) oki oki rfl ?s2 rfl ?s4 ?s5 ?s6 HH.out (Int.natCast_nonneg i) ?s8 ?s9 HM9.out (fun _ h_ => h_) HB9.out ?_; (case s2 => show _ = (i : Int).toNat * 12 + 7; rw [Int.toNat_natCast]); (case s4 => exact HV9.out.1); (case s5 => kernel_rfl); (case s6 => (intro q_ hq_; rw [List.mem_singleton] at hq_; subst hq_; exact HV9.out.2)); (case s8 => omega); (case s9 => show 7 + 1 ≤ 12; omega); intro w10 hS10 hB10 hg10; rw [Int.toNat_natCast] at hS10; have HA3 := Lib.hid (HFin.out w10 _ hS10 hB10 hg10); have hp3 := (HP2.out.set4 hi (gr4 k (gd M i) ++ [pGrown])).cast (gr4_snoc k (gd M i)) rfl; have HP3 := Lib.hid hp3; clear hS10 hB10 hg10 hp3 HH HM9 HB9 HFin HV9; generalize xs2.set i (put4 (gd xs2 i) (gr4 k (gd M i) ++ [pGrown])) = xs3 at *; obtain ⟨u7, u10, oku, e7, e10, hfr, r7, r10, f4, f7⟩ := HA3.out.grow i hi; rw [(HP3.out.mid hi).2] at r10; have hlen : ((gr7 k (gd M i)).length + 1) * 8 ≤ 140737488355328 := (by rw [gr7_len]; omega); have HR10 := Lib.hid r10; have HF7 := Lib.hid f7; have HFr2 := Lib.hid hfr; have HLe2 := Lib.hid hlen; have hsz := HA3.out.below.size; clear r7 r10 f4 f7 hfr hlen) | (at_builtin; refine Kd.R_append (Kd.int .i64) (w0 := w3) w3.heap.size rfl (.tmp 127) (.tmp 128) 32 3 _ 8 rfl Tryd.underlying32 info3 rfl (by decide) (by decide) u10 (gr7 k (gd M i)) (-2) [.int .i64 (-2)] oku (fun _ => False) rfl ?c0 rfl (fun _ hk => hk.elim) HFr2.out HR10.out HA3.out.below ?c1 HLe2.out ?_; (case c0 => first | rfl | (simp [Act.eval, go_sem]; done)); (case c1 => exact hsz); intro v9 w9 hR9 hB9 hg9 hat9; obtain ⟨hH, hM9, hfin⟩ := HF7.out w9 v9 _ hg9 hR9; have HH := Lib.hid hH; have HM9 := Lib.hid hM9; have HFin := Lib.hid hfin; have HV9 := Lib.hid (Kd.R_val hR9); have HB9 := Lib.hid hB9; clear hR9 hB9 hg9 hat9 hH hM9 hfin e7 e10 hsz) | (refine Kd.H_store k36 (w0 := w3) w3.heap.size rfl rfl 32 (.tmp 132) (.tmp 129) rfl 36 (i : Int) 10 xs3 (put7 (gd xs3 i) (gr7 k (gd M i) ++ [-2])) v9 [v9] (c12 (gd xs3 i) u7 u10) (okA w4.heap.size w8.heap.size) oku oku rfl ?s2 rfl ?s4 ?s5 ?s6 HH.out (Int.natCast_nonneg i) ?s8 ?s9 HM9.out (fun _ h_ => h_) HB9.out ?_; (case s2 => show _ = (i : Int).toNat * 12 + 10; rw [Int.toNat_natCast]); (case s4 => exact HV9.out.1); (case s5 => kernel_rfl); (case s6 => (intro q_ hq_; rw [List.mem_singleton] at hq_; subst hq_; exact HV9.out.2)); (case s8 => omega); (case s9 => show 10 + 1 ≤ 12; omega); intro w11 hS11 hB11 hg11; rw [Int.toNat_natCast] at hS11; have HA4 := Lib.hid (HFin.out w11 _ hS11 hB11 hg11); have hp4 := (HP3.out.set7 hi (gr7 k (gd M i) ++ [-2])).cast rfl (gr7_snoc k (gd M i)); have HP4 := Lib.hid hp4; clear hS11 hB11 hg11 hp4 HH HM9 HB9 HFin HV9))
                go_roundg gi
                case measure => omega
                case rel => exact ⟨k + 1, _, by omega, by go_num, HA4, HP4⟩
      | succ go =>
        have hi : i < M.length := by omega
        obtain ⟨wo, rfl⟩ : ∃ wo : World, wo = wr := ⟨_, rfl⟩
        obtain ⟨g, cap, he, _⟩ := Kd.S_form HA.out.s (by rw [HP.out.len]; omega)
        injection he with h1 h2 h3
        subst h1 h3
        have b1 : (i : Int) < (M.length : Int) := by omega
        obtain ⟨hm4, hm7⟩ := HLn.out i hi
        have HP0 := Lib.hid (HP.out.cast (mk4_0 (gd M i)).symm (mk7_0 (gd M i)).symm)
        clear HP h2
        have HE4 := Lib.hid (mk4_end (gd M i))
        have HE7 := Lib.hid (mk7_end (gd M i))
        generalize hm : (gd M i).f3.f4.length = m at *
        have HM := Lib.hid hm
        clear hm
        generalize hm : (gd M i).f3.f7.length = m7 at *
        have HM7 := Lib.hid hm
        clear hm
        go_wp2
        go_loopg [11] m (fun gk u11 wx => ∃ (k : Nat) (xs : List S36), k + gk = m ∧ u11 = .int .i64 (k : Int) ∧ Hid (Ap w3 w8 wx w4.heap.size w8.heap.size (.slice (some ⟨g, 0, none⟩) M.length c4) xs) ∧ Hid (Pm M xs i (gr4 0) (gr7 0) or4 or7 (mk4 k (gd M i)) (mk7 0 (gd M i))))
        case atStart => exact ⟨0, xs, by omega, rfl, HA, HP0⟩
        case round =>
          obtain ⟨k, xs2, hkg, rfl, HA2, HP2⟩ := hrel
          obtain ⟨v7, v10, oki, e7, e10, r7, r10, f4, f7⟩ := HA2.out.lend i hi
          rw [(HP2.out.mid hi).1] at r7
          have hl7 := mk4_len k (gd M i) (by have := HM.out; omega)
          rw [HM.out] at hl7
          have HL7 := Lib.hid hl7
          have HR7 := Lib.hid r7
          have HF4 := Lib.hid f4
          clear r7 f4 f7 r10 hl7
          cases gk with
          | zero =>
            obtain rfl : m = k := by omega
            obtain ⟨A7, c7', rfl⟩ := Kd.R_slice HR7.out
            rw [HL7.out] at e7
            go_wp2
            clear e7 e10 HL7 HR7 HF4
            go_loopg [12] m7 (fun gk u12 wx => ∃ (k : Nat) (xs : List S36), k + gk = m7 ∧ u12 = .int .i64 (k : Int) ∧ Hid (Ap w3 w8 wx w4.heap.size w8.heap.size (.slice (some ⟨g, 0, none⟩) M.length c4) xs) ∧ Hid (Pm M xs i (gr4 0) (gr7 0) or4 or7 (mk4 m (gd M i)) (mk7 k (gd M i))))
            case atStart => exact ⟨0, xs2, by omega, rfl, HA2, HP2⟩
            case round =>
              obtain ⟨k, xs3, hkg3, rfl, HA3, HP3⟩ := hrel
              obtain ⟨v7, v10, oki, e7, e10, r7, r10, f4, f7⟩ := HA3.out.lend i hi
              rw [(HP3.out.mid hi).2] at r10
              have hl7 := mk7_len k (gd M i) (by have := HM7.out; omega)
              rw [HM7.out] at hl7
              have HL7 := Lib.hid hl7
              have HR7 := Lib.hid r10
              have HF7 := Lib.hid f7
              clear r7 f4 f7 r10 hl7
              cases gk with
              | zero =>
                obtain rfl : k = m7 := by omega
                obtain ⟨A7, c7', rfl⟩ := Kd.R_slice HR7.out
                rw [HL7.out] at e10
                go_wp2
                have hpe := (HP3.out.cast HE4.out HE7.out).next
                have HPe := Lib.hid hpe
                clear hpe
                go_roundg go
                case measure => omega
                case rel => exact ⟨i + 1, xs3, by omega, by go_num, HA3, HPe⟩
              | succ gi =>
                have hk : k < m7 := by omega
                obtain ⟨b, c7', rfl, _⟩ := Kd.R_form HR7.out (by rw [HL7.out]; omega)
                obtain ⟨cc, hcl, _, hcc, hfz⟩ := Kd.R_elem HR7.out 0 (k : Int) (by omega) (by rw [HL7.out]; omega)
                rw [HL7.out] at e10
                have b2 : (k : Int) < (m7 : Int) := by omega
                have HSt := Lib.hid (mk7_set k (gd M i) (by rw [HM7.out]; exact hk))
                go_wp2_with (refine Kd.R_store (Kd.int .i64) (w0 := w3) w3.heap.size rfl rfl 3 (.tmp 95) (.const (.int .i64 (-1))) rfl 3 (k : Int) 0 (mk7 k (gd M i)) (-1) (.int .i64 (-1)) [.int .i64 (-1)] cc oki (fun _ => False) rfl ?s2 rfl rfl ?s5 ?s6 HR7.out (Int.natCast_nonneg k) ?s8 hcl hcc ?s9 ?s10 (fun _ hk => hk.elim) HA3.out.below ?_; (case s2 => show _ = (k : Int).toNat * 1 + 0; rw [Int.toNat_natCast]; omega); (case s5 => kernel_rfl); (case s6 => simp [Value.oneCell']); (case s8 => rw [HL7.out]; omega); (case s9 => show 0 + 1 ≤ 1; omega); (case s10 => (have hcl2 := hcl; match cc, hcl2 with | [_], _ => exact rfl)); intro w9 hR9 hB9 hg9; have HN := Lib.hid (HF7.out w9 _ hg9 hB9 hR9); clear hR9 hB9 hg9)
                have hpn := HP3.out.set7 hi ((mk7 k (gd M i)).set (k : Int).toNat (-1))
                have HPn : Hid (Pm M _ i (gr4 0) (gr7 0) or4 or7 (mk4 m (gd M i)) (mk7 (k + 1) (gd M i))) := Lib.hid (hpn.cast rfl (by rw [Int.toNat_natCast]; exact HSt.out))
                clear hpn
                go_roundg gi
                case measure => omega
                case rel => exact ⟨k + 1, _, by omega, by go_num, HN, HPn⟩
          | succ gi =>
            have hk : k < m := by omega
            obtain ⟨b, c7', rfl, _⟩ := Kd.R_form HR7.out (by rw [HL7.out]; omega)
            obtain ⟨cc, hcl, _, hcc, hfz⟩ := Kd.R_elem HR7.out z38 (k : Int) (by omega) (by rw [HL7.out]; omega)
            rw [HL7.out] at e7
            have b2 : (k : Int) < (m : Int) := by omega
            have hst := mk4_set k (gd M i) (by rw [HM.out]; exact hk)
            have HSt := Lib.hid hst
            clear hst
            go_wp2_with (refine Kd.R_store k38 (w0 := w3) w3.heap.size rfl rfl 38 (.tmp 76) (.tmp 75) rfl 38 (k : Int) 0 (mk4 k (gd M i)) pMarked (.agg #[.string ⟨#[109, 97, 114, 107, 101, 100]⟩, .string ⟨#[]⟩]) [.string ⟨#[109, 97, 114, 107, 101, 100]⟩, .string ⟨#[]⟩] cc oki (fun _ => False) rfl ?s2 rfl rfl ?s5 ?s6 HR7.out (Int.natCast_nonneg k) ?s8 hcl hcc ?s9 ?s10 (fun _ hk => hk.elim) HA2.out.below ?_; (case s2 => show _ = (k : Int).toNat * 2 + 0; rw [Int.toNat_natCast]; first | rfl | omega); (case s5 => kernel_rfl); (case s6 => simp [Value.oneCell']); (case s8 => rw [HL7.out]; omega); (case s9 => show 0 + 2 ≤ 2; omega); (case s10 => (have hcl2 := hcl; match cc, hcl2 with | [_, _], _ => exact k38_mkM _ _ _ pMarked)); intro w9 hR9 hB9 hg9; have HN := Lib.hid (HF4.out w9 _ hg9 hB9 hR9); clear hR9 hB9 hg9)
            have hpn := HP2.out.set4 hi ((mk4 k (gd M i)).set (k : Int).toNat pMarked)
            have HPn : Hid (Pm M _ i (gr4 0) (gr7 0) or4 or7 (mk4 (k + 1) (gd M i)) (mk7 0 (gd M i))) := Lib.hid (hpn.cast (by rw [Int.toNat_natCast]; exact HSt.out) rfl)
            clear hpn
            go_roundg gi
            case measure => omega
            case rel => exact ⟨k + 1, _, by omega, by go_num, HN, HPn⟩
  · have b1 : (p2 == 0) = false := beq_eq_false_iff_ne.2 hp2
    have b2 : (p2 != 0) = true := bne_iff_ne.2 hp2
    clear hp2
    go_wp2
    go_ret
    exact ⟨rfl, HB3.out⟩
end Go.Proofs.YtdmlgligljagoaaDoor

namespace Go.Proofs.YtdmlgligljagoaaDoor.lawScriptApart
open Go.ChangeShapes Go.WideShapes Go.ChangeAt Go.RowKit
open Go.ChangeMaps (open_string shut_string)
set_option linter.unusedVariables false
set_option linter.unusedSimpArgs false
noncomputable def leafs : DataW Unit → List Value
  | .lit (.int k n) => [Value.int k n]
  | .agg l => l.map fun d => match d with
    | .lit (.int k n) => Value.int k n
    | _ => undef
  | _ => [undef]
noncomputable def toCells : DataW Unit → Array Value
  | .agg l => (l.flatMap leafs).toArray
  | _ => #[]
noncomputable def setTab (h : Array Obj) (x : String × DataW Unit) : Array Obj := h.modify ((Tryd.prog.globalNamed x.1).getD 0) fun o => match o with
  | .cells _ t frozen => .cells (toCells x.2) t frozen
  | o => o
noncomputable def laidWorld (os : Os) : World :=
  { World.holding Tryd.prog os ⟨#[], #[], []⟩ with heap := List.foldl setTab (World.holding Tryd.prog os ⟨#[], #[], []⟩).heap Rows.scriptApartUptoRow.laid }
theorem gTab : Tryd.prog.globalNamed "internal/strconv.uint64pow10" = some 0 := by kernel_rfl
theorem table {W : World} (h : laidMetH Tryd.prog Rows.scriptApartUptoRow.laid W) (hS : W.ShapedOpen Tryd.prog) : Tab W := by
  refine ⟨?_, cell_of_shapedOpen_int (zero := #[.int .i64 0]) (t := 3) hS (of_decide_eq_true (by kernel_rfl)) (by kernel_rfl) rfl (by kernel_rfl) (by kernel_rfl) Tryd.underlying3⟩
  obtain ⟨ps, h0, _⟩ := h
  obtain ⟨_, _, _, _, _, _, _, _, _, _, h1, _⟩ := h0
  obtain ⟨_, _, _, _, _, _, _, _, _, _, h2, _⟩ := h1
  exact tab_of_vars gTab (t := 123) (n := 20) (e := 110) (by kernel_rfl) Tryd.underlying123 Tryd.underlying110 (by kernel_rfl) (by kernel_rfl) h2

set_option maxRecDepth 100000 in
theorem contract (H : Type) (enc : TypeId × Value → H) (W : World) (base : Nat) (args : Array Value) (ds gs : List (DataW H)) (before : List MemPlace)
    (hval : ∀ (j : Nat) t v, Tryd.f8.params[j]? = some t → args[j]? = some v → Value.okWide Tryd.prog W .any base t v)
    (hW : DataW.Whole enc Tryd.prog Tryd.f8.params.toList Rows.scriptApartSpec.vars false W args.toList ds gs before)
    (hz : (DataW.weightsEach Tryd.prog (Tryd.f8.params.toList ++ ([] : List TypeId)) (ds ++ gs)).all (· ≤ reachBytes) = true) (hk : Rows.uptoSmall H (ds ++ gs) = true) (hL : laidMetH Tryd.prog Rows.scriptApartUptoRow.laid W) (hS : W.ShapedOpen Tryd.prog) :
    Calls Tryd.prog 8 args W fun e W' => ∃ v, e = .returned v ∧ Rows.scriptApartSpec.post enc Tryd.prog Tryd.f8 false true false false W args v W' := by
  have hW' := hW
  obtain ⟨p, q, hA0, hV, rfl, hfz, hnd⟩ := hW
  have hA : DataW.TrodAll enc Tryd.prog W 0 (fun _ => true) true Tryd.f8.params.toList args.toList ds p := hA0
  rw [Tryd.params8] at hA hval hz
  obtain ⟨v0, vs0, d0, ds0, p0, q0, hargs, rfl, rfl, h0, r0⟩ := trodAll_cons hA
  obtain ⟨rfl, rfl, rfl⟩ := trodAll_nil r0
  obtain rfl : args = #[v0] := by cases args; simp_all
  obtain ⟨rfl, rfl⟩ := trodVars_none hV
  obtain ⟨A0, c0, l0, rfl, hl0, hC0, hB0, hI0⟩ := open_cmds (hval 0 22 v0 rfl rfl) h0
  clear hA0
  have hk2 : Rows.uptoBulkAll [d0] ≤ 1048576 := of_decide_eq_true hk
  simp only [Rows.uptoBulkAll] at hk2
  have z0 : (l0.map wC).sum ≤ 1048576 := by omega
  have hc : Calls Tryd.prog 8 #[.slice A0 l0.length c0] W fun e W' => e = .returned (.bool true) ∧ Below W.heap.size W W' := scriptApart_any l0 A0 c0 W hC0 hl0 z0 hI0 (table hL hS)
  exact hc.mono fun e W' ⟨he, hb⟩ => ⟨_, he, law_post rfl (by rw [Tryd.params8]; decide +kernel) (tb := 4) (by kernel_rfl) Tryd.underlying4 ⟨rfl, rfl, rfl⟩ hW' hb⟩

set_option maxRecDepth 100000 in
theorem laid_met (os : Os) : laidMet Tryd.prog Rows.scriptApartUptoRow.laid ((laidWorld os).forCall (fun _ _ => 0) ⟨#[], #[.slice none 0 0], []⟩).memory :=
  laidMet_of_run' 8 (by kernel_rfl) (by kernel_rfl)
set_option maxRecDepth 100000 in
theorem reads (os : Os) {H : Type} (enc : TypeId × Value → H) : ∃ places, DataW.whole enc Tryd.prog ((laidWorld os).forCall (fun _ _ => 0) ⟨#[], #[.slice none 0 0], []⟩).memory Tryd.f8.params.toList Rows.scriptApartSpec.vars false (#[.slice none 0 0] : Array Value).toList 8 = some ([.nil], [], places) :=
  ⟨[], by kernel_rfl⟩
set_option maxRecDepth 100000 in
theorem lifted (os : Os) (started : os.Started) (H : Type) (enc : TypeId × Value → H) (F : Stop.Interp) :
    ReturnsInHanded {} Tryd.checked os 8 .any ((Rows.OpenSpec.upto Rows.scriptApartSpec).preRow enc Tryd.prog Tryd.f8 Rows.scriptApartUptoRow.domain false Rows.scriptApartUptoRow.laid) (((Rows.OpenSpec.upto Rows.scriptApartSpec).at F).post enc Tryd.prog Tryd.f8 false true false false) := by
  obtain ⟨places, hx⟩ := reads os enc
  refine returnsInHanded_of_row (C := Tryd.checked) (s := Rows.OpenSpec.upto Rows.scriptApartSpec) own started (by kernel_rfl) Tryd.func8
    (witness_row_at (enc := enc) (C := Tryd.checked) false (laidWorld os) #[.slice none 0 0] rfl (by kernel_rfl) (by kernel_rfl) (by kernel_rfl)
      (OpenSpec.preRow_of_cond 8 hx (by kernel_rfl) (fun k hk => by cases hk; exact decide_eq_true (by simp [Rows.uptoBulkAll, Rows.uptoBulk])) (by kernel_rfl) (laid_met os))) ?_
  intro W base args ds gs before hval hW _ hk hz hL hS _
  exact contract H enc W base args ds gs before hval hW hz (hk _ rfl) hL hS
theorem said : Rows.ScriptApartUptoSaid :=
  OpenClaim.holds_of_cond 8 Tryd.f8 rfl rfl rfl rfl rfl rfl rfl ⟨rfl, rfl, rfl, rfl, rfl⟩ rfl rfl rfl rfl rfl (by kernel_rfl) Tryd.func8 (by kernel_rfl)
    (of_decide_eq_true (by kernel_rfl)) (by unfold Func.isWrapper; first | (rw [if_pos (by decide +kernel)]; kernel_rfl) | (rw [if_neg (by decide +kernel)]; exact ⟨rfl, rfl⟩))
    (fun os started H enc _ F => by rw [OpenClaim.pre_eq_preRow]; exact lifted os started H enc F)
theorem plain (f : FuncId) (fn : Func) (hf : Tryd.pinned.checked.prog.funcNamed "coffer/cofferlaw22.ScriptApart" = some f) (hfn : Tryd.pinned.checked.prog.funcs[f]? = some fn) :
    false = Tryd.pinned.checked.prog.looks [] ∧ ∀ (j : Nat) t, fn.params[j]? = some t → Tryd.pinned.checked.prog.wantsStandIn t = false := by
  obtain rfl : f = 8 := Option.some.inj ((show Tryd.prog.funcNamed "coffer/cofferlaw22.ScriptApart" = some 8 by kernel_rfl).symm.trans hf) |>.symm
  obtain rfl : fn = Tryd.f8 := (Option.some.inj (Tryd.func8.symm.trans hfn)).symm
  refine ⟨by kernel_rfl, fun j t ht => ?_⟩
  rw [Tryd.params8] at ht
  have hm := Array.mem_of_getElem? ht
  exact of_decide_eq_true ((show ([22] : List TypeId).all (fun t => decide (Tryd.prog.wantsStandIn t = false)) = true by kernel_rfl) |> fun h => List.all_eq_true.1 h t (by simpa using hm))
/-- THE CARD -/
theorem proved : Rows.ScriptApartUptoCardSaid :=
  Claim7.holds_tied_plain_at .later [] _ _ _ _ said (fun _ h => by cases h) (by kernel_rfl) (fun _ h => by cases h) scriptApartUpto_row_tie rfl ⟨rfl, rfl⟩ (by kernel_rfl) rfl plain (by kernel_rfl)
end Go.Proofs.YtdmlgligljagoaaDoor.lawScriptApart
