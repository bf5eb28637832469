/- The law ScriptLines of this seat: coffer/cofferlaw22.ScriptLines returns true for every input, and its arguments read as they did. The package-level tables are as the row lists them.
The machine side of some functions, printed for this claim: each function has the answers of a plain one.
Plain law: lines that say nothing; two texts one behind the other.
Plain law: the law on lines answers true.
What a law's contract gives its row: true is told, and what came in reads as it did. -/
import Derived.Test.YtdmlgligljagoaaDoorProg
import Derived.WalkKit
import Derived.ProofKit
import Derived.OpenShut
import Derived.ShutString
import Derived.Deep.DeepHandedRow
import Derived.Lib.LaidTab
import Derived.Test.YtdmlgligljagoaaDoorCards
import Derived.Test.YtdmlgligljagoaaDoorTie
import Derived.Test.YtdmlgligljagoaaDoorQL5
namespace Go.Proofs.YtdmlgligljagoaaDoor.PS
open Go.RowKit Go.Proofs.YtdmlgligljagoaaDoorW.PrintWords Go.Proofs.YtdmlgligljagoaaDoorW.PrintLast Go.Proofs.YtdmlgligljagoaaDoorW.PrintMore
attribute [local go_sem] zbi zbj max_two min_two zbg zbh zbk zbl   -- for this text's walks alone
set_option linter.unusedVariables false
set_option linter.unusedSimpArgs false

/-! ### cofferlaw22_ScriptLines: function 5 -/
mutual
def cofferlaw22_ScriptLines.j0 : Nat → ByteArray → ByteArray → ByteArray → Bool → Option (Bool)
 | 0, _, _, _, _ => none
 | k + 1, x0, x1, x2, x35 => if x35 = true then (some true) else (cofferlaw22_ScriptLines.l0 k x0 x1 x2 0)
def cofferlaw22_ScriptLines.l0 : Nat → ByteArray → ByteArray → ByteArray → Int → Option (Bool)
 | 0, _, _, _, _ => none
 | k + 1, x0, x1, x2, x7 => if x7 < (x2.size : Int) then (if 0 ≤ x7 then (if (bt x2 x7) = 10 then (some true) else (cofferlaw22_ScriptLines.l0 k x0 x1 x2 (wrap64 (x7 + 1)))) else (none)) else ((script_Parse.f k x0).bind fun bt285 => ((cofferlaw22_ended.f x0).bind fun t289 => ((script_Parse.f k t289).bind fun bt290 => (if bt285.2 = bt290.2 then ((cofferlaw22_told.f k bt285.1).bind fun t294 => ((cofferlaw22_told.f k bt290.1).bind fun t297 => ((cofferref22_Same.f t294 t297).bind fun t300 => (cofferlaw22_ScriptLines.j2 k x0 x1 x2 bt285.1 bt285.2 (!t300))))) else (cofferlaw22_ScriptLines.j2 k x0 x1 x2 bt285.1 bt285.2 true)))))
def cofferlaw22_ScriptLines.j2 : Nat → ByteArray → ByteArray → ByteArray → List (S36) → Int → Bool → Option (Bool)
 | 0, _, _, _, _, _, _ => none
 | k + 1, x0, x1, x2, x8, x9, x67 => if x67 = true then (some false) else ((cofferlaw22_ended.f x0).bind fun t301 => (cofferlaw22_ScriptLines.l1 k x1 x2 x8 x9 (⟨#[]⟩ : ByteArray) 0 t301 0))
def cofferlaw22_ScriptLines.l1 : Nat → ByteArray → ByteArray → List (S36) → Int → ByteArray → Int → ByteArray → Int → Option (Bool)
 | 0, _, _, _, _, _, _, _, _ => none
 | k + 1, x1, x2, x8, x9, x12, x13, x14, x15 => if x15 < (x14.size : Int) then (if 0 ≤ x15 then (if (bt x14 x15) = 10 then (if x12.size + 2 ≤ 9223372036854775807 then (if (x12 ++ (⟨#[10, 35]⟩ : ByteArray)).size + x2.size ≤ 9223372036854775807 then (if ((x12 ++ (⟨#[10, 35]⟩ : ByteArray)) ++ x2).size + 1 ≤ 9223372036854775807 then (if 0 ≤ x13 then (if x13 ≤ (wrap64 (x15 + 1)) then (if (wrap64 (x15 + 1)) ≤ (x14.size : Int) then (if (((x12 ++ (⟨#[10, 35]⟩ : ByteArray)) ++ x2) ++ (⟨#[10]⟩ : ByteArray)).size + (x14.extract (x13 : Int).toNat ((wrap64 (x15 + 1)) : Int).toNat).size ≤ 9223372036854775807 then (cofferlaw22_ScriptLines.l1 k x1 x2 x8 x9 ((((x12 ++ (⟨#[10, 35]⟩ : ByteArray)) ++ x2) ++ (⟨#[10]⟩ : ByteArray)) ++ (x14.extract (x13 : Int).toNat ((wrap64 (x15 + 1)) : Int).toNat)) (wrap64 (x15 + 1)) x14 (wrap64 (x15 + 1))) else (none)) else (none)) else (none)) else (none)) else (none)) else (none)) else (none)) else (cofferlaw22_ScriptLines.l1 k x1 x2 x8 x9 x12 x13 x14 (wrap64 (x15 + 1)))) else (none)) else ((script_Parse.f k x12).bind fun bt302 => (if bt302.2 = x9 then ((cofferlaw22_told.f k x8).bind fun t306 => ((cofferlaw22_told.f k bt302.1).bind fun t309 => ((cofferref22_Same.f t306 t309).bind fun t312 => (cofferlaw22_ScriptLines.j4 k x1 x8 x9 x14 (!t312))))) else (cofferlaw22_ScriptLines.j4 k x1 x8 x9 x14 true)))
def cofferlaw22_ScriptLines.j4 : Nat → ByteArray → List (S36) → Int → ByteArray → Bool → Option (Bool)
 | 0, _, _, _, _, _ => none
 | k + 1, x1, x8, x9, x14, x108 => if x108 = true then (some false) else ((script_Parse.f k x1).bind fun bt313 => (if x9 = 0 then (cofferlaw22_ScriptLines.j5 k x1 x8 x14 bt313.1 (bt313.2 != 0)) else (cofferlaw22_ScriptLines.j5 k x1 x8 x14 bt313.1 true)))
def cofferlaw22_ScriptLines.j5 : Nat → ByteArray → List (S36) → ByteArray → List (S36) → Bool → Option (Bool)
 | 0, _, _, _, _, _ => none
 | k + 1, x1, x8, x14, x18, x119 => if x119 = true then (some true) else (if x14.size + x1.size ≤ 9223372036854775807 then ((script_Parse.f k (x14 ++ x1)).bind fun bt317 => (if bt317.2 = 0 then ((cofferlaw22_told.f k bt317.1).bind fun t321 => ((cofferlaw22_told.f k x8).bind fun t324 => ((cofferlaw22_told.f k x18).bind fun t327 => (if t324.length + t327.length < 879609302220 then ((cofferref22_Same.f t321 (t324 ++ t327)).bind fun t333 => (some t333)) else (none))))) else (some false))) else (none))
end
def cofferlaw22_ScriptLines.f (k : Nat) (a0 : ByteArray) (a1 : ByteArray) (a2 : ByteArray) : Option (Bool) := (cofferlaw22_first.f k).bind fun t282 => (if t282 = true then ((cofferlaw22_few.f k a0).bind fun t283 => (if t283 = true then ((cofferlaw22_few.f k a1).bind fun t284 => (if t284 = true then (cofferlaw22_ScriptLines.j0 k a0 a1 a2 (decide ((a2.size : Int) > 20))) else (cofferlaw22_ScriptLines.j0 k a0 a1 a2 true))) else (cofferlaw22_ScriptLines.j0 k a0 a1 a2 true))) else (some false))
theorem cofferlaw22_ScriptLines.mono_l : ∀ k, (∀ y0 y1 y2 y3, LeO (cofferlaw22_ScriptLines.j0 k y0 y1 y2 y3) (cofferlaw22_ScriptLines.j0 (k + 1) y0 y1 y2 y3)) ∧ (∀ y0 y1 y2 y3, LeO (cofferlaw22_ScriptLines.l0 k y0 y1 y2 y3) (cofferlaw22_ScriptLines.l0 (k + 1) y0 y1 y2 y3)) ∧ (∀ y0 y1 y2 y3 y4 y5, LeO (cofferlaw22_ScriptLines.j2 k y0 y1 y2 y3 y4 y5) (cofferlaw22_ScriptLines.j2 (k + 1) y0 y1 y2 y3 y4 y5)) ∧ (∀ y0 y1 y2 y3 y4 y5 y6 y7, LeO (cofferlaw22_ScriptLines.l1 k y0 y1 y2 y3 y4 y5 y6 y7) (cofferlaw22_ScriptLines.l1 (k + 1) y0 y1 y2 y3 y4 y5 y6 y7)) ∧ (∀ y0 y1 y2 y3 y4, LeO (cofferlaw22_ScriptLines.j4 k y0 y1 y2 y3 y4) (cofferlaw22_ScriptLines.j4 (k + 1) y0 y1 y2 y3 y4)) ∧ (∀ y0 y1 y2 y3 y4, LeO (cofferlaw22_ScriptLines.j5 k y0 y1 y2 y3 y4) (cofferlaw22_ScriptLines.j5 (k + 1) y0 y1 y2 y3 y4))
 | 0 => ⟨fun _ _ _ _ r h => by simp [cofferlaw22_ScriptLines.j0] at h, fun _ _ _ _ r h => by simp [cofferlaw22_ScriptLines.l0] at h, fun _ _ _ _ _ _ r h => by simp [cofferlaw22_ScriptLines.j2] at h, fun _ _ _ _ _ _ _ _ r h => by simp [cofferlaw22_ScriptLines.l1] at h, fun _ _ _ _ _ r h => by simp [cofferlaw22_ScriptLines.j4] at h, fun _ _ _ _ _ r h => by simp [cofferlaw22_ScriptLines.j5] at h⟩
 | k + 1 => by
  obtain ⟨ih0, ih1, ih2, ih3, ih4, ih5⟩ := cofferlaw22_ScriptLines.mono_l k
  refine ⟨?_, ?_, ?_, ?_, ?_, ?_⟩
  ·
   intro y0 y1 y2 y3
   unfold cofferlaw22_ScriptLines.j0
   repeat' first
   | (with_reducible exact ih0 _ _ _ _)
   | (with_reducible exact ih1 _ _ _ _)
   | (with_reducible exact ih2 _ _ _ _ _ _)
   | (with_reducible exact ih3 _ _ _ _ _ _ _ _)
   | (with_reducible exact ih4 _ _ _ _ _)
   | (with_reducible exact ih5 _ _ _ _ _)
   | (with_reducible exact cofferlaw22_few.mono _ _)
   | (with_reducible exact cofferlaw22_first.mono _)
   | (with_reducible exact cofferlaw22_told.mono _ _)
   | (with_reducible exact script_Parse.mono _ _)
   | (with_reducible exact LeO.refl _)
   | (with_reducible exact LeO.none _)
   | (with_reducible refine LeO.ite ?_ ?_)
   | (with_reducible refine LeO.bind ?_ (fun _ => ?_))
   | exact ih0 _ _ _ _
   | exact ih1 _ _ _ _
   | exact ih2 _ _ _ _ _ _
   | exact ih3 _ _ _ _ _ _ _ _
   | exact ih4 _ _ _ _ _
   | exact ih5 _ _ _ _ _
   | exact cofferlaw22_few.mono _ _
   | exact cofferlaw22_first.mono _
   | exact cofferlaw22_told.mono _ _
   | exact script_Parse.mono _ _
   | exact LeO.none _
   | refine LeO.ite ?_ ?_
   | refine LeO.bind ?_ (fun _ => ?_)
  ·
   intro y0 y1 y2 y3
   unfold cofferlaw22_ScriptLines.l0
   repeat' first
   | (with_reducible exact ih0 _ _ _ _)
   | (with_reducible exact ih1 _ _ _ _)
   | (with_reducible exact ih2 _ _ _ _ _ _)
   | (with_reducible exact ih3 _ _ _ _ _ _ _ _)
   | (with_reducible exact ih4 _ _ _ _ _)
   | (with_reducible exact ih5 _ _ _ _ _)
   | (with_reducible exact cofferlaw22_few.mono _ _)
   | (with_reducible exact cofferlaw22_first.mono _)
   | (with_reducible exact cofferlaw22_told.mono _ _)
   | (with_reducible exact script_Parse.mono _ _)
   | (with_reducible exact LeO.refl _)
   | (with_reducible exact LeO.none _)
   | (with_reducible refine LeO.ite ?_ ?_)
   | (with_reducible refine LeO.bind ?_ (fun _ => ?_))
   | exact ih0 _ _ _ _
   | exact ih1 _ _ _ _
   | exact ih2 _ _ _ _ _ _
   | exact ih3 _ _ _ _ _ _ _ _
   | exact ih4 _ _ _ _ _
   | exact ih5 _ _ _ _ _
   | exact cofferlaw22_few.mono _ _
   | exact cofferlaw22_first.mono _
   | exact cofferlaw22_told.mono _ _
   | exact script_Parse.mono _ _
   | exact LeO.none _
   | refine LeO.ite ?_ ?_
   | refine LeO.bind ?_ (fun _ => ?_)
  ·
   intro y0 y1 y2 y3 y4 y5
   unfold cofferlaw22_ScriptLines.j2
   repeat' first
   | (with_reducible exact ih0 _ _ _ _)
   | (with_reducible exact ih1 _ _ _ _)
   | (with_reducible exact ih2 _ _ _ _ _ _)
   | (with_reducible exact ih3 _ _ _ _ _ _ _ _)
   | (with_reducible exact ih4 _ _ _ _ _)
   | (with_reducible exact ih5 _ _ _ _ _)
   | (with_reducible exact cofferlaw22_few.mono _ _)
   | (with_reducible exact cofferlaw22_first.mono _)
   | (with_reducible exact cofferlaw22_told.mono _ _)
   | (with_reducible exact script_Parse.mono _ _)
   | (with_reducible exact LeO.refl _)
   | (with_reducible exact LeO.none _)
   | (with_reducible refine LeO.ite ?_ ?_)
   | (with_reducible refine LeO.bind ?_ (fun _ => ?_))
   | exact ih0 _ _ _ _
   | exact ih1 _ _ _ _
   | exact ih2 _ _ _ _ _ _
   | exact ih3 _ _ _ _ _ _ _ _
   | exact ih4 _ _ _ _ _
   | exact ih5 _ _ _ _ _
   | exact cofferlaw22_few.mono _ _
   | exact cofferlaw22_first.mono _
   | exact cofferlaw22_told.mono _ _
   | exact script_Parse.mono _ _
   | exact LeO.none _
   | refine LeO.ite ?_ ?_
   | refine LeO.bind ?_ (fun _ => ?_)
  ·
   intro y0 y1 y2 y3 y4 y5 y6 y7
   unfold cofferlaw22_ScriptLines.l1
   repeat' first
   | (with_reducible exact ih0 _ _ _ _)
   | (with_reducible exact ih1 _ _ _ _)
   | (with_reducible exact ih2 _ _ _ _ _ _)
   | (with_reducible exact ih3 _ _ _ _ _ _ _ _)
   | (with_reducible exact ih4 _ _ _ _ _)
   | (with_reducible exact ih5 _ _ _ _ _)
   | (with_reducible exact cofferlaw22_few.mono _ _)
   | (with_reducible exact cofferlaw22_first.mono _)
   | (with_reducible exact cofferlaw22_told.mono _ _)
   | (with_reducible exact script_Parse.mono _ _)
   | (with_reducible exact LeO.refl _)
   | (with_reducible exact LeO.none _)
   | (with_reducible refine LeO.ite ?_ ?_)
   | (with_reducible refine LeO.bind ?_ (fun _ => ?_))
   | exact ih0 _ _ _ _
   | exact ih1 _ _ _ _
   | exact ih2 _ _ _ _ _ _
   | exact ih3 _ _ _ _ _ _ _ _
   | exact ih4 _ _ _ _ _
   | exact ih5 _ _ _ _ _
   | exact cofferlaw22_few.mono _ _
   | exact cofferlaw22_first.mono _
   | exact cofferlaw22_told.mono _ _
   | exact script_Parse.mono _ _
   | exact LeO.none _
   | refine LeO.ite ?_ ?_
   | refine LeO.bind ?_ (fun _ => ?_)
  ·
   intro y0 y1 y2 y3 y4
   unfold cofferlaw22_ScriptLines.j4
   repeat' first
   | (with_reducible exact ih0 _ _ _ _)
   | (with_reducible exact ih1 _ _ _ _)
   | (with_reducible exact ih2 _ _ _ _ _ _)
   | (with_reducible exact ih3 _ _ _ _ _ _ _ _)
   | (with_reducible exact ih4 _ _ _ _ _)
   | (with_reducible exact ih5 _ _ _ _ _)
   | (with_reducible exact cofferlaw22_few.mono _ _)
   | (with_reducible exact cofferlaw22_first.mono _)
   | (with_reducible exact cofferlaw22_told.mono _ _)
   | (with_reducible exact script_Parse.mono _ _)
   | (with_reducible exact LeO.refl _)
   | (with_reducible exact LeO.none _)
   | (with_reducible refine LeO.ite ?_ ?_)
   | (with_reducible refine LeO.bind ?_ (fun _ => ?_))
   | exact ih0 _ _ _ _
   | exact ih1 _ _ _ _
   | exact ih2 _ _ _ _ _ _
   | exact ih3 _ _ _ _ _ _ _ _
   | exact ih4 _ _ _ _ _
   | exact ih5 _ _ _ _ _
   | exact cofferlaw22_few.mono _ _
   | exact cofferlaw22_first.mono _
   | exact cofferlaw22_told.mono _ _
   | exact script_Parse.mono _ _
   | exact LeO.none _
   | refine LeO.ite ?_ ?_
   | refine LeO.bind ?_ (fun _ => ?_)
  ·
   intro y0 y1 y2 y3 y4
   unfold cofferlaw22_ScriptLines.j5
   repeat' first
   | (with_reducible exact ih0 _ _ _ _)
   | (with_reducible exact ih1 _ _ _ _)
   | (with_reducible exact ih2 _ _ _ _ _ _)
   | (with_reducible exact ih3 _ _ _ _ _ _ _ _)
   | (with_reducible exact ih4 _ _ _ _ _)
   | (with_reducible exact ih5 _ _ _ _ _)
   | (with_reducible exact cofferlaw22_few.mono _ _)
   | (with_reducible exact cofferlaw22_first.mono _)
   | (with_reducible exact cofferlaw22_told.mono _ _)
   | (with_reducible exact script_Parse.mono _ _)
   | (with_reducible exact LeO.refl _)
   | (with_reducible exact LeO.none _)
   | (with_reducible refine LeO.ite ?_ ?_)
   | (with_reducible refine LeO.bind ?_ (fun _ => ?_))
   | exact ih0 _ _ _ _
   | exact ih1 _ _ _ _
   | exact ih2 _ _ _ _ _ _
   | exact ih3 _ _ _ _ _ _ _ _
   | exact ih4 _ _ _ _ _
   | exact ih5 _ _ _ _ _
   | exact cofferlaw22_few.mono _ _
   | exact cofferlaw22_first.mono _
   | exact cofferlaw22_told.mono _ _
   | exact script_Parse.mono _ _
   | exact LeO.none _
   | refine LeO.ite ?_ ?_
   | refine LeO.bind ?_ (fun _ => ?_)
theorem cofferlaw22_ScriptLines.mono : ∀ a0 a1 a2 k, LeO (cofferlaw22_ScriptLines.f k a0 a1 a2) (cofferlaw22_ScriptLines.f (k + 1) a0 a1 a2) := by
 intro a0 a1 a2 k
 obtain ⟨ih0, ih1, ih2, ih3, ih4, ih5⟩ := cofferlaw22_ScriptLines.mono_l k
 unfold cofferlaw22_ScriptLines.f
 repeat' first
   | (with_reducible exact ih0 _ _ _ _)
   | (with_reducible exact ih1 _ _ _ _)
   | (with_reducible exact ih2 _ _ _ _ _ _)
   | (with_reducible exact ih3 _ _ _ _ _ _ _ _)
   | (with_reducible exact ih4 _ _ _ _ _)
   | (with_reducible exact ih5 _ _ _ _ _)
   | (with_reducible exact cofferlaw22_few.mono _ _)
   | (with_reducible exact cofferlaw22_first.mono _)
   | (with_reducible exact cofferlaw22_told.mono _ _)
   | (with_reducible exact script_Parse.mono _ _)
   | (with_reducible exact LeO.refl _)
   | (with_reducible exact LeO.none _)
   | (with_reducible refine LeO.ite ?_ ?_)
   | (with_reducible refine LeO.bind ?_ (fun _ => ?_))
   | exact ih0 _ _ _ _
   | exact ih1 _ _ _ _
   | exact ih2 _ _ _ _ _ _
   | exact ih3 _ _ _ _ _ _ _ _
   | exact ih4 _ _ _ _ _
   | exact ih5 _ _ _ _ _
   | exact cofferlaw22_few.mono _ _
   | exact cofferlaw22_first.mono _
   | exact cofferlaw22_told.mono _ _
   | exact script_Parse.mono _ _
   | exact LeO.none _
   | refine LeO.ite ?_ ?_
   | refine LeO.bind ?_ (fun _ => ?_)
set_option maxHeartbeats 8000000 in
set_option maxRecDepth 100000 in
theorem cofferlaw22_ScriptLines.calls (k : Nat) (a0 : ByteArray) (a1 : ByteArray) (a2 : ByteArray) (r : Bool) (w : World) (hT : Tab w) (h : cofferlaw22_ScriptLines.f k a0 a1 a2 = some r) :
  Calls Tryd.prog 5 #[.string a0, .string a1, .string a2] w fun e w' => e = .returned (.bool r) ∧ Below w.heap.size w w' := by
 have HB := Aside0.mk (Below.refl w.heap.size w)
 have HT := Aside0.mk hT
 clear hT
 have H : ((cofferlaw22_first.f k).bind fun t282 => (if t282 = true then ((cofferlaw22_few.f k a0).bind fun t283 => (if t283 = true then ((cofferlaw22_few.f k a1).bind fun t284 => (if t284 = true then (cofferlaw22_ScriptLines.j0 k a0 a1 a2 (decide ((a2.size : Int) > 20))) else (cofferlaw22_ScriptLines.j0 k a0 a1 a2 true))) else (cofferlaw22_ScriptLines.j0 k a0 a1 a2 true))) else (some false))) = some r := h
 clear h
 replace H := Option.bind_eq_some_iff.mp H
 obtain ⟨t282, A40, H⟩ := H
 replace H : (if t282 = true then ((cofferlaw22_few.f k a0).bind fun t283 => (if t283 = true then ((cofferlaw22_few.f k a1).bind fun t284 => (if t284 = true then (cofferlaw22_ScriptLines.j0 k a0 a1 a2 (decide ((a2.size : Int) > 20))) else (cofferlaw22_ScriptLines.j0 k a0 a1 a2 true))) else (cofferlaw22_ScriptLines.j0 k a0 a1 a2 true))) else (some false)) = some r := H
 have A4 := Aside0.mk A40
 clear A40
 by_cases c5 : t282 = true
 ·
  subst c5
  have H1 : ((cofferlaw22_few.f k a0).bind fun t283 => (if t283 = true then ((cofferlaw22_few.f k a1).bind fun t284 => (if t284 = true then (cofferlaw22_ScriptLines.j0 k a0 a1 a2 (decide ((a2.size : Int) > 20))) else (cofferlaw22_ScriptLines.j0 k a0 a1 a2 true))) else (cofferlaw22_ScriptLines.j0 k a0 a1 a2 true))) = some r := by rw [if_pos rfl] at H; exact H
  clear H
  have H := H1
  clear H1
  have HC6 := Aside0.mk H
  clear H
  go_enter Tryd.func5, Tryd.ntmps5
  go_upto_region 3 with (first | ((with_reducible refine zas (f := 16) rfl ?_); refine zba (some 21) rfl rfl Tryd.func16 (by kernel_rfl) rfl #[] rfl (by (try simp only [List.map_toArray, List.map_cons, List.map_nil]); first | done | rfl | (simp only [List.length_drop, List.length_take]; rfl)) ?_; (with_reducible refine (cofferlaw22_first.calls k  true _ ?side1 A4.out).mono ?_); (case side1 => exact zaz HT.out (by repeat (first | (with_reducible first | exact HB.out | apply zad | apply zab | apply zac) | exact HB.out))); rintro e w7 ⟨rfl, hb⟩; refine ⟨_, rfl, ?_⟩; have n0_ := Aside0.mk (zan (by repeat (first | (with_reducible first | exact HB.out | apply zad | apply zab | apply zac) | exact HB.out)) hb); clear HB; have HB := n0_; clear n0_; (try clear hb); (try clear hb2); (try clear hk); (try clear hi)))
  (try simp only [Act.put, List.setIfInBounds_toArray, List.set_cons_zero, List.set_cons_succ])
  go_cut [35] (fun v35 wc => ∃ (kq : Nat) (x35_5 : Bool), v35 = .bool x35_5 ∧ Aside0 (cofferlaw22_ScriptLines.j0 kq a0 a1 a2 x35_5 = some r) ∧ Aside0 (kq ≤ k) ∧ Aside0 (Below w.heap.size w wc))
  case first =>
   have H := HC6.out
   clear HC6
   replace H := Option.bind_eq_some_iff.mp H
   obtain ⟨t283, A80, H⟩ := H
   replace H : (if t283 = true then ((cofferlaw22_few.f k a1).bind fun t284 => (if t284 = true then (cofferlaw22_ScriptLines.j0 k a0 a1 a2 (decide ((a2.size : Int) > 20))) else (cofferlaw22_ScriptLines.j0 k a0 a1 a2 true))) else (cofferlaw22_ScriptLines.j0 k a0 a1 a2 true)) = some r := H
   have A8 := Aside0.mk A80
   clear A80
   by_cases c9 : t283 = true
   ·
    subst c9
    have H1 : ((cofferlaw22_few.f k a1).bind fun t284 => (if t284 = true then (cofferlaw22_ScriptLines.j0 k a0 a1 a2 (decide ((a2.size : Int) > 20))) else (cofferlaw22_ScriptLines.j0 k a0 a1 a2 true))) = some r := by rw [if_pos rfl] at H; exact H
    clear H
    have H := H1
    clear H1
    replace H := Option.bind_eq_some_iff.mp H
    obtain ⟨t284, A100, H⟩ := H
    replace H : (if t284 = true then (cofferlaw22_ScriptLines.j0 k a0 a1 a2 (decide ((a2.size : Int) > 20))) else (cofferlaw22_ScriptLines.j0 k a0 a1 a2 true)) = some r := H
    have A10 := Aside0.mk A100
    clear A100
    by_cases c11 : t284 = true
    ·
     subst c11
     have H1 : (cofferlaw22_ScriptLines.j0 k a0 a1 a2 (decide ((a2.size : Int) > 20))) = some r := by rw [if_pos rfl] at H; exact H
     clear H
     have H := H1
     clear H1
     have H' := Aside0.mk H
     clear H
     go_wp2_with (first | ((with_reducible refine zas (f := 20) rfl ?_); refine zba (some 24) rfl rfl Tryd.func20 (by kernel_rfl) rfl #[.string a0] rfl (by (try simp only [List.map_toArray, List.map_cons, List.map_nil]); first | done | rfl | (simp only [List.length_drop, List.length_take]; rfl)) ?_; (with_reducible refine (cofferlaw22_few.calls k a0 true _ A8.out).mono ?_); rintro e w' ⟨rfl, ⟨nd, rfl⟩⟩; refine ⟨_, rfl, ?_⟩) | (go_at_call 20; (with_reducible refine (cofferlaw22_few.calls k a1 true _ A10.out).mono ?_); rintro e w' ⟨rfl, ⟨nd, rfl⟩⟩))
     go_meet
     case rel => exact ⟨_, (decide ((a2.size : Int) > 20)), (by first | rfl | (simp; done) | (simp [*]; done)), H', ⟨by first | omega | exact Nat.le_refl _⟩, ⟨by repeat (first | (with_reducible first | exact HB.out | apply zad | apply zab | apply zac) | exact HB.out)⟩⟩
    ·
     replace c11 := Bool.eq_false_iff.mpr c11
     subst c11
     have H1 : (cofferlaw22_ScriptLines.j0 k a0 a1 a2 true) = some r := by rw [if_neg (show ¬ (false = true) by decide)] at H; exact H
     clear H
     have H := H1
     clear H1
     have H' := Aside0.mk H
     clear H
     go_wp2_with (first | ((with_reducible refine zas (f := 20) rfl ?_); refine zba (some 24) rfl rfl Tryd.func20 (by kernel_rfl) rfl #[.string a0] rfl (by (try simp only [List.map_toArray, List.map_cons, List.map_nil]); first | done | rfl | (simp only [List.length_drop, List.length_take]; rfl)) ?_; (with_reducible refine (cofferlaw22_few.calls k a0 true _ A8.out).mono ?_); rintro e w' ⟨rfl, ⟨nd, rfl⟩⟩; refine ⟨_, rfl, ?_⟩) | (go_at_call 20; (with_reducible refine (cofferlaw22_few.calls k a1 false _ A10.out).mono ?_); rintro e w' ⟨rfl, ⟨nd, rfl⟩⟩))
     go_meet
     case rel => exact ⟨_, (true), (by first | rfl | (simp; done) | (simp [*]; done)), H', ⟨by first | omega | exact Nat.le_refl _⟩, ⟨by repeat (first | (with_reducible first | exact HB.out | apply zad | apply zab | apply zac) | exact HB.out)⟩⟩
   ·
    replace c9 := Bool.eq_false_iff.mpr c9
    subst c9
    have H1 : (cofferlaw22_ScriptLines.j0 k a0 a1 a2 true) = some r := by rw [if_neg (show ¬ (false = true) by decide)] at H; exact H
    clear H
    have H := H1
    clear H1
    have H' := Aside0.mk H
    clear H
    go_wp2_with (first | ((with_reducible refine zas (f := 20) rfl ?_); refine zba (some 24) rfl rfl Tryd.func20 (by kernel_rfl) rfl #[.string a0] rfl (by (try simp only [List.map_toArray, List.map_cons, List.map_nil]); first | done | rfl | (simp only [List.length_drop, List.length_take]; rfl)) ?_; (with_reducible refine (cofferlaw22_few.calls k a0 false _ A8.out).mono ?_); rintro e w' ⟨rfl, ⟨nd, rfl⟩⟩; refine ⟨_, rfl, ?_⟩))
    go_meet
    case rel => exact ⟨_, (true), (by first | rfl | (simp; done) | (simp [*]; done)), H', ⟨by first | omega | exact Nat.le_refl _⟩, ⟨by repeat (first | (with_reducible first | exact HB.out | apply zad | apply zab | apply zac) | exact HB.out)⟩⟩
  case rest =>
   clear HC6
   try clear c1
   try clear c2
   try clear p2
   try clear c5
   try clear c9
   try clear c11
   obtain ⟨kq, x35_5, rfl, HA, HJ5, HB⟩ := hcut
   cases kq with
   | zero => exact absurd HA.out (by simp [cofferlaw22_ScriptLines.j0])
   | succ kj5 =>
    have H := HA.out
    clear HA
    simp only [cofferlaw22_ScriptLines.j0] at H
    by_cases c12 : x35_5 = true
    ·
     subst c12
     have H1 : (some true) = some r := by rw [if_pos rfl] at H; exact H
     clear H
     have H := H1
     clear H1
     obtain rfl := Option.some.inj H
     go_wp2
     go_ret
     exact ⟨by first | rfl | (simp [zal, zam] <;> rfl) | (simp [*, zal, zam] <;> rfl), by repeat (first | (with_reducible first | exact HB.out | apply zad | apply zab | apply zac) | exact HB.out)⟩
    ·
     replace c12 := Bool.eq_false_iff.mpr c12
     subst c12
     have H1 : (cofferlaw22_ScriptLines.l0 kj5 a0 a1 a2 0) = some r := by rw [if_neg (show ¬ (false = true) by decide)] at H; exact H
     clear H
     have H := H1
     clear H1
     have H' := Aside0.mk H
     clear H
     go_wp2
     go_loopg [7] kj5 (fun kq v7 w' => ∃ (x7_2 : Int), v7 = .int .i64 x7_2 ∧ Aside0 (cofferlaw22_ScriptLines.l0 kq a0 a1 a2 x7_2 = some r) ∧ Aside0 (kq ≤ kj5) ∧ Aside0 (Below w.heap.size w w'))
     case atStart => exact ⟨(0), (by first | rfl | (simp; done) | (simp [*]; done)), H', ⟨Nat.le_refl _⟩, ⟨by repeat (first | (with_reducible first | exact HB.out | apply zad | apply zab | apply zac) | exact HB.out)⟩⟩
     case round =>
      clear H'
      try clear c1
      try clear c2
      try clear p2
      try clear c5
      try clear c9
      try clear c11
      try clear c12
      try clear p2
      obtain ⟨x7_2, rfl, HA, HK2, HB⟩ := hrel
      cases gk with
      | zero => exact absurd HA.out (by simp [cofferlaw22_ScriptLines.l0])
      | succ k2 =>
       have H := HA.out
       clear HA
       simp only [cofferlaw22_ScriptLines.l0] at H
       by_cases c13 : x7_2 < (a2.size : Int)
       ·
        rw [if_pos c13] at H
        have c13b0 : decide (x7_2 < (a2.size : Int)) = true := decide_eq_true c13
        clear c13
        by_cases c14 : 0 ≤ x7_2
        ·
         rw [if_pos c14] at H
         have c14b0 : decide (0 ≤ x7_2) = true := decide_eq_true c14
         clear c14
         by_cases c16 : (bt a2 x7_2) = 10
         ·
          rw [if_pos c16] at H
          have c16b0 : ((bt a2 x7_2) == 10) = true := beq_iff_eq.mpr c16
          have c16b1 : ((bt a2 x7_2) != 10) = false := bne_eq_false_iff_eq.mpr c16
          clear c16
          obtain rfl := Option.some.inj H
          have p15 : 0 ≤ (x7_2 : Int) := of_decide_eq_true (by first | (with_reducible assumption) | assumption)
          have q15 : x7_2 < (a2.size : Int) := of_decide_eq_true (by first | (with_reducible assumption) | assumption)
          have hx15 := bt_at a2 x7_2
          replace p15 := eq_true p15
          replace q15 := eq_true q15
          go_wp2
          go_ret
          exact ⟨by first | rfl | (simp [zal, zam] <;> rfl) | (simp [*, zal, zam] <;> rfl), by repeat (first | (with_reducible first | exact HB.out | apply zad | apply zab | apply zac) | exact HB.out)⟩
         ·
          rw [if_neg c16] at H
          have c16b0 : ((bt a2 x7_2) == 10) = false := beq_eq_false_iff_ne.mpr c16
          have c16b1 : ((bt a2 x7_2) != 10) = true := bne_iff_ne.mpr c16
          have H' := Aside0.mk H
          clear H
          have p15 : 0 ≤ (x7_2 : Int) := of_decide_eq_true (by first | (with_reducible assumption) | assumption)
          have q15 : x7_2 < (a2.size : Int) := of_decide_eq_true (by first | (with_reducible assumption) | assumption)
          have hx15 := bt_at a2 x7_2
          replace p15 := eq_true p15
          replace q15 := eq_true q15
          go_wp2
          go_roundg k2
          case measure => have := HJ5.out; have := HK2.out; omega
          case rel => exact ⟨(wrap64 (x7_2 + 1)), (by first | rfl | (simp; done) | (simp [*]; done)), H', ⟨by have := HJ5.out; have := HK2.out; omega⟩, ⟨by repeat (first | (with_reducible first | exact HB.out | apply zad | apply zab | apply zac) | exact HB.out)⟩⟩
        ·
         rw [if_neg c14] at H
         exact absurd H (by simp)
       ·
        rw [if_neg c13] at H
        have c13b0 : decide (x7_2 < (a2.size : Int)) = false := decide_eq_false c13
        clear c13
        replace H := Option.bind_eq_some_iff.mp H
        obtain ⟨⟨t285, t286⟩, A170, H⟩ := H
        replace H : ((cofferlaw22_ended.f a0).bind fun t289 => ((script_Parse.f k2 t289).bind fun bt290 => (if t286 = bt290.2 then ((cofferlaw22_told.f k2 t285).bind fun t294 => ((cofferlaw22_told.f k2 bt290.1).bind fun t297 => ((cofferref22_Same.f t294 t297).bind fun t300 => (cofferlaw22_ScriptLines.j2 k2 a0 a1 a2 t285 t286 (!t300))))) else (cofferlaw22_ScriptLines.j2 k2 a0 a1 a2 t285 t286 true)))) = some r := H
        have A17 := Aside0.mk A170
        clear A170
        replace H := Option.bind_eq_some_iff.mp H
        obtain ⟨t289, A180, H⟩ := H
        replace H : ((script_Parse.f k2 t289).bind fun bt290 => (if t286 = bt290.2 then ((cofferlaw22_told.f k2 t285).bind fun t294 => ((cofferlaw22_told.f k2 bt290.1).bind fun t297 => ((cofferref22_Same.f t294 t297).bind fun t300 => (cofferlaw22_ScriptLines.j2 k2 a0 a1 a2 t285 t286 (!t300))))) else (cofferlaw22_ScriptLines.j2 k2 a0 a1 a2 t285 t286 true))) = some r := H
        have A18 := Aside0.mk A180
        clear A180
        replace H := Option.bind_eq_some_iff.mp H
        obtain ⟨⟨t290, t291⟩, A190, H⟩ := H
        replace H : (if t286 = t291 then ((cofferlaw22_told.f k2 t285).bind fun t294 => ((cofferlaw22_told.f k2 t290).bind fun t297 => ((cofferref22_Same.f t294 t297).bind fun t300 => (cofferlaw22_ScriptLines.j2 k2 a0 a1 a2 t285 t286 (!t300))))) else (cofferlaw22_ScriptLines.j2 k2 a0 a1 a2 t285 t286 true)) = some r := H
        have A19 := Aside0.mk A190
        clear A190
        have HC20 := Aside0.mk H
        clear H
        go_upto_region 12 with (first | ((with_reducible refine zas (f := 18) rfl ?_); refine zba (some 48) rfl rfl Tryd.func18 (by kernel_rfl) rfl #[.string a0] rfl (by (try simp only [List.map_toArray, List.map_cons, List.map_nil]); first | done | rfl | (simp only [List.length_drop, List.length_take]; rfl)) ?_; (with_reducible refine (script_Parse.calls k2 a0 t285 t286 _ ?side1 A17.out).mono ?_); (case side1 => exact zaz HT.out (by repeat (first | (with_reducible first | exact HB.out | apply zad | apply zab | apply zac) | exact HB.out))); rintro e w21 ⟨v287, rfl, ho0, hb⟩; refine ⟨_, rfl, ?_⟩; have n0_ := Aside0.mk (Kd.N_lower (Kd.N_mono (ok' := fun k_ => True) (Kd.S_N (Kd.S_bound ho0)) (fun k_ hk_ => trivial)) (zaj (by repeat (first | (with_reducible first | exact HB.out | apply zad | apply zab | apply zac) | exact HB.out)))); have n1_ := Aside0.mk (zan (by repeat (first | (with_reducible first | exact HB.out | apply zad | apply zab | apply zac) | exact HB.out)) hb); clear HB; have HO288 := n0_; have HB := n1_; clear n0_ n1_; (try clear hb); (try clear hb2); (try clear hk); (try clear hi); (try clear ho0)) | ((with_reducible refine zas (f := 21) rfl ?_); refine zba (some 53) rfl rfl Tryd.func21 (by kernel_rfl) rfl #[.string a0] rfl (by (try simp only [List.map_toArray, List.map_cons, List.map_nil]); first | done | rfl | (simp only [List.length_drop, List.length_take]; rfl)) ?_; (with_reducible refine (cofferlaw22_ended.calls a0 t289 _ A18.out).mono ?_); rintro e w' ⟨rfl, ⟨nd, rfl⟩⟩; refine ⟨_, rfl, ?_⟩) | ((with_reducible refine zas (f := 18) rfl ?_); refine zba (some 54) rfl rfl Tryd.func18 (by kernel_rfl) rfl #[.string t289] rfl (by (try simp only [List.map_toArray, List.map_cons, List.map_nil]); first | done | rfl | (simp only [List.length_drop, List.length_take]; rfl)) ?_; (with_reducible refine (script_Parse.calls k2 t289 t290 t291 _ ?side1 A19.out).mono ?_); (case side1 => exact zaz HT.out (by repeat (first | (with_reducible first | exact HB.out | apply zad | apply zab | apply zac) | exact HB.out))); rintro e w22 ⟨v292, rfl, ho0, hb⟩; refine ⟨_, rfl, ?_⟩; have n0_ := Aside0.mk (Kd.N_elder' (by (with_reducible repeat (first | apply Kd.N_alloc | apply Kd.N_drewN | apply Kd.N_drew)); exact HO288.out) (Kd.N_base (Kd.S_N ho0)) hb); have n1_ := Aside0.mk (Kd.N_lower (Kd.N_mono (ok' := fun k_ => some k_ ≠ (v287 : Value).ownBlock) (Kd.S_N (Kd.S_bound ho0)) (fun k_ hk_ => (Kd.fresh' (Kd.N_lt (by (with_reducible repeat (first | apply Kd.N_alloc | apply Kd.N_drewN | apply Kd.N_drew)); exact HO288.out)) k_ hk_.2.1))) (zaj (by repeat (first | (with_reducible first | exact HB.out | apply zad | apply zab | apply zac) | exact HB.out)))); have n2_ := Aside0.mk (zan (by repeat (first | (with_reducible first | exact HB.out | apply zad | apply zab | apply zac) | exact HB.out)) hb); clear HO288; clear HB; have HO288 := n0_; have HO293 := n1_; have HB := n2_; clear n0_ n1_ n2_; (try clear hb); (try clear hb2); (try clear hk); (try clear hi); (try clear ho0)))
        (try simp only [Act.put, List.setIfInBounds_toArray, List.set_cons_zero, List.set_cons_succ])
        go_cut [67] (fun v67 wc => ∃ (kq : Nat) (x67_19 : Bool), v67 = .bool x67_19 ∧ Aside0 (cofferlaw22_ScriptLines.j2 kq a0 a1 a2 t285 t286 x67_19 = some r) ∧ Aside0 (kq ≤ k2) ∧ Aside0 (Kd.N k36 36 wc w.heap.size (fun _ => True) v287 t285) ∧ Aside0 (Below w.heap.size w wc))
        case first =>
         have H := HC20.out
         clear HC20
         by_cases c23 : t286 = t291
         ·
          rw [if_pos c23] at H
          have c23b0 : (t286 == t291) = true := beq_iff_eq.mpr c23
          have c23b1 : (t286 != t291) = false := bne_eq_false_iff_eq.mpr c23
          clear c23
          (first | rw [c23b0] | (simp only [i64_w, i32_w]; rw [c23b0]) | rw [c23b2] | skip)
          replace H := Option.bind_eq_some_iff.mp H
          obtain ⟨t294, A240, H⟩ := H
          replace H : ((cofferlaw22_told.f k2 t290).bind fun t297 => ((cofferref22_Same.f t294 t297).bind fun t300 => (cofferlaw22_ScriptLines.j2 k2 a0 a1 a2 t285 t286 (!t300)))) = some r := H
          have A24 := Aside0.mk A240
          clear A240
          replace H := Option.bind_eq_some_iff.mp H
          obtain ⟨t297, A250, H⟩ := H
          replace H : ((cofferref22_Same.f t294 t297).bind fun t300 => (cofferlaw22_ScriptLines.j2 k2 a0 a1 a2 t285 t286 (!t300))) = some r := H
          have A25 := Aside0.mk A250
          clear A250
          replace H := Option.bind_eq_some_iff.mp H
          obtain ⟨t300, A260, H⟩ := H
          replace H : (cofferlaw22_ScriptLines.j2 k2 a0 a1 a2 t285 t286 (!t300)) = some r := H
          have A26 := Aside0.mk A260
          clear A260
          have H' := Aside0.mk H
          clear H
          obtain ⟨Ao27, co27, eo27⟩ := Kd.N_slice HO288.out
          subst eo27
          go_wp2_with (first | (go_at_call 15; (with_reducible refine (cofferlaw22_told.calls k2 _ _ t285 t294 _ ?side1 ?side2 A24.out).mono ?_); (case side1 => repeat (first | exact (Kd.N_reads' HO288.out).2.2 | (with_reducible refine Kd.C_alloc ?_ _) | (with_reducible refine Kd.C_drewN ?_ _) | (with_reducible refine Kd.C_drew ?_))); (case side2 => exact (Kd.N_reads' HO288.out).2.1); rintro e w28 ⟨v295, rfl, ho0, hb⟩; have n0_ := Aside0.mk (Kd.N_elder' (by (with_reducible repeat (first | apply Kd.N_alloc | apply Kd.N_drewN | apply Kd.N_drew)); exact HO288.out) (Kd.N_base (Kd.S_N ho0)) hb); have n1_ := Aside0.mk (Kd.N_elder' (by (with_reducible repeat (first | apply Kd.N_alloc | apply Kd.N_drewN | apply Kd.N_drew)); exact HO293.out) (Kd.N_base (Kd.S_N ho0)) hb); have n2_ := Aside0.mk (Kd.N_lower (Kd.N_mono (ok' := fun k_ => some k_ ≠ (.slice Ao27 t285.length co27 : Value).ownBlock ∧ some k_ ≠ (v292 : Value).ownBlock) (Kd.S_N (Kd.S_bound ho0)) (fun k_ hk_ => ⟨(Kd.fresh' (Kd.N_lt (by (with_reducible repeat (first | apply Kd.N_alloc | apply Kd.N_drewN | apply Kd.N_drew)); exact HO288.out)) k_ hk_.2.1), (Kd.fresh' (Kd.N_lt (by (with_reducible repeat (first | apply Kd.N_alloc | apply Kd.N_drewN | apply Kd.N_drew)); exact HO293.out)) k_ hk_.2.1)⟩)) (zaj (by repeat (first | (with_reducible first | exact HB.out | apply zad | apply zab | apply zac) | exact HB.out)))); have n3_ := Aside0.mk (zan (by repeat (first | (with_reducible first | exact HB.out | apply zad | apply zab | apply zac) | exact HB.out)) hb); clear HO288; clear HO293; clear HB; have HO288 := n0_; have HO293 := n1_; have HO296 := n2_; have HB := n3_; clear n0_ n1_ n2_ n3_; (try clear hb); (try clear hb2); (try clear hk); (try clear hi); (try clear ho0); obtain ⟨Ao29, co29, eo29⟩ := Kd.N_slice HO293.out; subst eo29) | (go_at_call 15; (with_reducible refine (cofferlaw22_told.calls k2 _ _ t290 t297 _ ?side1 ?side2 A25.out).mono ?_); (case side1 => repeat (first | exact (Kd.N_reads' HO293.out).2.2 | (with_reducible refine Kd.C_alloc ?_ _) | (with_reducible refine Kd.C_drewN ?_ _) | (with_reducible refine Kd.C_drew ?_))); (case side2 => exact (Kd.N_reads' HO293.out).2.1); rintro e w30 ⟨v298, rfl, ho0, hb⟩; have n0_ := Aside0.mk (Kd.N_elder' (by (with_reducible repeat (first | apply Kd.N_alloc | apply Kd.N_drewN | apply Kd.N_drew)); exact HO288.out) (Kd.N_base (Kd.S_N ho0)) hb); have n1_ := Aside0.mk (Kd.N_elder' (by (with_reducible repeat (first | apply Kd.N_alloc | apply Kd.N_drewN | apply Kd.N_drew)); exact HO293.out) (Kd.N_base (Kd.S_N ho0)) hb); have n2_ := Aside0.mk (Kd.N_elder' (by (with_reducible repeat (first | apply Kd.N_alloc | apply Kd.N_drewN | apply Kd.N_drew)); exact HO296.out) (Kd.N_base (Kd.S_N ho0)) hb); have n3_ := Aside0.mk (Kd.N_lower (Kd.N_mono (ok' := fun k_ => some k_ ≠ (.slice Ao27 t285.length co27 : Value).ownBlock ∧ some k_ ≠ (.slice Ao29 t290.length co29 : Value).ownBlock ∧ some k_ ≠ (v295 : Value).ownBlock) (Kd.S_N (Kd.S_bound ho0)) (fun k_ hk_ => ⟨(Kd.fresh' (Kd.N_lt (by (with_reducible repeat (first | apply Kd.N_alloc | apply Kd.N_drewN | apply Kd.N_drew)); exact HO288.out)) k_ hk_.2.1), (Kd.fresh' (Kd.N_lt (by (with_reducible repeat (first | apply Kd.N_alloc | apply Kd.N_drewN | apply Kd.N_drew)); exact HO293.out)) k_ hk_.2.1), (Kd.fresh' (Kd.N_lt (by (with_reducible repeat (first | apply Kd.N_alloc | apply Kd.N_drewN | apply Kd.N_drew)); exact HO296.out)) k_ hk_.2.1)⟩)) (zaj (by repeat (first | (with_reducible first | exact HB.out | apply zad | apply zab | apply zac) | exact HB.out)))); have n4_ := Aside0.mk (zan (by repeat (first | (with_reducible first | exact HB.out | apply zad | apply zab | apply zac) | exact HB.out)) hb); clear HO288; clear HO293; clear HO296; clear HB; have HO288 := n0_; have HO293 := n1_; have HO296 := n2_; have HO299 := n3_; have HB := n4_; clear n0_ n1_ n2_ n3_ n4_; (try clear hb); (try clear hb2); (try clear hk); (try clear hi); (try clear ho0); obtain ⟨Ao31, co31, eo31⟩ := Kd.N_slice HO296.out; subst eo31; obtain ⟨Ao32, co32, eo32⟩ := Kd.N_slice HO299.out; subst eo32) | (go_at_call 19; (with_reducible refine (cofferref22_Same.calls _ _ t294 _ _ t297 t300 _ ?side1 ?side2 ?side3 ?side4 A26.out).mono ?_); (case side1 => repeat (first | exact (Kd.N_reads' HO296.out).2.2 | (with_reducible refine Kd.C_alloc ?_ _) | (with_reducible refine Kd.C_drewN ?_ _) | (with_reducible refine Kd.C_drew ?_))); (case side2 => exact (Kd.N_reads' HO296.out).2.1); (case side3 => repeat (first | exact (Kd.N_reads' HO299.out).2.2 | (with_reducible refine Kd.C_alloc ?_ _) | (with_reducible refine Kd.C_drewN ?_ _) | (with_reducible refine Kd.C_drew ?_))); (case side4 => exact (Kd.N_reads' HO299.out).2.1); rintro e w33 ⟨rfl, hb⟩; have n0_ := Aside0.mk (Kd.N_below (by (with_reducible repeat (first | apply Kd.N_alloc | apply Kd.N_drewN | apply Kd.N_drew)); exact HO288.out) hb); have n1_ := Aside0.mk (Kd.N_below (by (with_reducible repeat (first | apply Kd.N_alloc | apply Kd.N_drewN | apply Kd.N_drew)); exact HO293.out) hb); have n2_ := Aside0.mk (Kd.N_below (by (with_reducible repeat (first | apply Kd.N_alloc | apply Kd.N_drewN | apply Kd.N_drew)); exact HO296.out) hb); have n3_ := Aside0.mk (Kd.N_below (by (with_reducible repeat (first | apply Kd.N_alloc | apply Kd.N_drewN | apply Kd.N_drew)); exact HO299.out) hb); have n4_ := Aside0.mk (zan (by repeat (first | (with_reducible first | exact HB.out | apply zad | apply zab | apply zac) | exact HB.out)) hb); clear HO288; clear HO293; clear HO296; clear HO299; clear HB; have HO288 := n0_; have HO293 := n1_; have HO296 := n2_; have HO299 := n3_; have HB := n4_; clear n0_ n1_ n2_ n3_ n4_; (try clear hb); (try clear hb2); (try clear hk); (try clear hi)))
          go_meet
          case rel => exact ⟨_, (!t300), (by first | rfl | (simp; done) | (simp [*]; done)), H', ⟨by have := HJ5.out; have := HK2.out; first | omega | exact Nat.le_refl _⟩, ⟨by (with_reducible repeat (first | apply Kd.N_alloc | apply Kd.N_drewN | apply Kd.N_drew)); exact Kd.N_mono HO288.out (fun _ hk => trivial)⟩, ⟨by repeat (first | (with_reducible first | exact HB.out | apply zad | apply zab | apply zac) | exact HB.out)⟩⟩
         ·
          rw [if_neg c23] at H
          have c23b0 : (t286 == t291) = false := beq_eq_false_iff_ne.mpr c23
          have c23b1 : (t286 != t291) = true := bne_iff_ne.mpr c23
          (first | rw [c23b0] | (simp only [i64_w, i32_w]; rw [c23b0]) | rw [c23b2] | skip)
          have H' := Aside0.mk H
          clear H
          go_wp2
          go_meet
          case rel => exact ⟨_, (true), (by first | rfl | (simp; done) | (simp [*]; done)), H', ⟨by have := HJ5.out; have := HK2.out; first | omega | exact Nat.le_refl _⟩, ⟨by (with_reducible repeat (first | apply Kd.N_alloc | apply Kd.N_drewN | apply Kd.N_drew)); exact Kd.N_mono HO288.out (fun _ hk => trivial)⟩, ⟨by repeat (first | (with_reducible first | exact HB.out | apply zad | apply zab | apply zac) | exact HB.out)⟩⟩
        case rest =>
         clear HC20
         try clear c1
         try clear p1
         try clear q1
         try clear hx1
         try clear c2
         try clear p2
         try clear c5
         try clear p6
         try clear c9
         try clear c11
         try clear c12
         try clear c13
         try clear c13b0
         try clear c14
         try clear c14b0
         try clear p15
         try clear q15
         try clear hx15
         try clear c16
         try clear c16b0
         try clear c16b1
         try clear c18
         try clear c20
         try clear c21
         try clear c23
         try clear c23b0
         try clear c23b1
         try clear c23b2
         try clear p15
         try clear p2
         try clear q15
         obtain ⟨kq, x67_19, rfl, HA, HJ19, HO_8, HB⟩ := hcut
         cases kq with
         | zero => exact absurd HA.out (by simp [cofferlaw22_ScriptLines.j2])
         | succ kj19 =>
          have H := HA.out
          clear HA
          simp only [cofferlaw22_ScriptLines.j2] at H
          by_cases c34 : x67_19 = true
          ·
           subst c34
           have H1 : (some false) = some r := by rw [if_pos rfl] at H; exact H
           clear H
           have H := H1
           clear H1
           obtain rfl := Option.some.inj H
           go_wp2
           go_ret
           exact ⟨by first | rfl | (simp [zal, zam] <;> rfl) | (simp [*, zal, zam] <;> rfl), by repeat (first | (with_reducible first | exact HB.out | apply zad | apply zab | apply zac) | exact HB.out)⟩
          ·
           replace c34 := Bool.eq_false_iff.mpr c34
           subst c34
           have H1 : ((cofferlaw22_ended.f a0).bind fun t301 => (cofferlaw22_ScriptLines.l1 kj19 a1 a2 t285 t286 (⟨#[]⟩ : ByteArray) 0 t301 0)) = some r := by rw [if_neg (show ¬ (false = true) by decide)] at H; exact H
           clear H
           have H := H1
           clear H1
           replace H := Option.bind_eq_some_iff.mp H
           obtain ⟨t301, A350, H⟩ := H
           replace H : (cofferlaw22_ScriptLines.l1 kj19 a1 a2 t285 t286 (⟨#[]⟩ : ByteArray) 0 t301 0) = some r := H
           have A35 := Aside0.mk A350
           clear A350
           have H' := Aside0.mk H
           clear H
           go_wp2_with (first | ((with_reducible refine zas (f := 21) rfl ?_); refine zba (some 69) rfl rfl Tryd.func21 (by kernel_rfl) rfl #[.string a0] rfl (by (try simp only [List.map_toArray, List.map_cons, List.map_nil]); first | done | rfl | (simp only [List.length_drop, List.length_take]; rfl)) ?_; (with_reducible refine (cofferlaw22_ended.calls a0 t301 _ A35.out).mono ?_); rintro e w' ⟨rfl, ⟨nd, rfl⟩⟩; refine ⟨_, rfl, ?_⟩))
           go_loopg [12, 13, 15] kj19 (fun kq v12 v13 v15 w' => ∃ (x12_4 : ByteArray) (x13_4 : Int) (x15_4 : Int), v12 = .string x12_4 ∧ v13 = .int .i64 x13_4 ∧ v15 = .int .i64 x15_4 ∧ Aside0 (cofferlaw22_ScriptLines.l1 kq a1 a2 t285 t286 x12_4 x13_4 t301 x15_4 = some r) ∧ Aside0 (kq ≤ kj19) ∧ Aside0 (Kd.N k36 36 w' w.heap.size (fun _ => True) v287 t285) ∧ Aside0 (Below w.heap.size w w'))
           case atStart => exact ⟨((⟨#[]⟩ : ByteArray)), (0), (0), (by first | rfl | (simp; done) | (simp [*]; done)), (by first | rfl | (simp; done) | (simp [*]; done)), (by first | rfl | (simp; done) | (simp [*]; done)), H', ⟨Nat.le_refl _⟩, ⟨by (with_reducible repeat (first | apply Kd.N_alloc | apply Kd.N_drewN | apply Kd.N_drew)); exact HO_8.out⟩, ⟨by repeat (first | (with_reducible first | exact HB.out | apply zad | apply zab | apply zac) | exact HB.out)⟩⟩
           case round =>
            clear H'
            try clear c1
            try clear p1
            try clear q1
            try clear hx1
            try clear c2
            try clear p2
            try clear c3
            try clear c5
            try clear p6
            try clear c9
            try clear c11
            try clear c12
            try clear c13
            try clear c13b0
            try clear c14
            try clear c14b0
            try clear p15
            try clear q15
            try clear hx15
            try clear c16
            try clear c16b0
            try clear c16b1
            try clear c18
            try clear c20
            try clear c21
            try clear c23
            try clear c23b0
            try clear c23b1
            try clear c23b2
            try clear c34
            try clear p1
            try clear p15
            try clear p2
            try clear p6
            try clear q1
            try clear q15
            obtain ⟨x12_4, x13_4, x15_4, rfl, rfl, rfl, HA, HK4, HO_8, HB⟩ := hrel
            cases gk with
            | zero => exact absurd HA.out (by simp [cofferlaw22_ScriptLines.l1])
            | succ k4 =>
             have H := HA.out
             clear HA
             simp only [cofferlaw22_ScriptLines.l1] at H
             by_cases c36 : x15_4 < (t301.size : Int)
             ·
              rw [if_pos c36] at H
              have c36b0 : decide (x15_4 < (t301.size : Int)) = true := decide_eq_true c36
              clear c36
              by_cases c37 : 0 ≤ x15_4
              ·
               rw [if_pos c37] at H
               have c37b0 : decide (0 ≤ x15_4) = true := decide_eq_true c37
               clear c37
               by_cases c39 : (bt t301 x15_4) = 10
               ·
                rw [if_pos c39] at H
                have c39b0 : ((bt t301 x15_4) == 10) = true := beq_iff_eq.mpr c39
                have c39b1 : ((bt t301 x15_4) != 10) = false := bne_eq_false_iff_eq.mpr c39
                clear c39
                by_cases c40 : x12_4.size + 2 ≤ 9223372036854775807
                ·
                 rw [if_pos c40] at H
                 have c40b0 := eq_true c40
                 have c40b1 : decide (x12_4.size + 2 ≤ 9223372036854775807) = true := decide_eq_true c40
                 try have c40b2 : (9223372036854775807 < x12_4.size + 2) = False := eq_false (Nat.not_lt.2 c40)
                 by_cases c41 : (x12_4 ++ (⟨#[10, 35]⟩ : ByteArray)).size + a2.size ≤ 9223372036854775807
                 ·
                  rw [if_pos c41] at H
                  have c41b0 := eq_true c41
                  have c41b1 : decide ((x12_4 ++ (⟨#[10, 35]⟩ : ByteArray)).size + a2.size ≤ 9223372036854775807) = true := decide_eq_true c41
                  try have c41b2 : (9223372036854775807 < (x12_4 ++ (⟨#[10, 35]⟩ : ByteArray)).size + a2.size) = False := eq_false (Nat.not_lt.2 c41)
                  try have c41b3 : (9223372036854775807 < x12_4.size + 2 + a2.size) = False := eq_false (Nat.not_lt.2 (by have h_ := c41; simp only [ByteArray.size_append] at h_; exact h_))
                  try have c41b4 : (9223372036854775807 < x12_4.size + 2 + a2.size) = False := eq_false (Nat.not_lt.2 (by have h_ := c41; simp only [ByteArray.size_append] at h_; exact h_))
                  by_cases c42 : ((x12_4 ++ (⟨#[10, 35]⟩ : ByteArray)) ++ a2).size + 1 ≤ 9223372036854775807
                  ·
                   rw [if_pos c42] at H
                   have c42b0 := eq_true c42
                   have c42b1 : decide (((x12_4 ++ (⟨#[10, 35]⟩ : ByteArray)) ++ a2).size + 1 ≤ 9223372036854775807) = true := decide_eq_true c42
                   try have c42b2 : (9223372036854775807 < ((x12_4 ++ (⟨#[10, 35]⟩ : ByteArray)) ++ a2).size + 1) = False := eq_false (Nat.not_lt.2 c42)
                   try have c42b3 : (9223372036854775807 < x12_4.size + 2 + a2.size + 1) = False := eq_false (Nat.not_lt.2 (by have h_ := c42; simp only [ByteArray.size_append] at h_; exact h_))
                   try have c42b4 : (9223372036854775807 < x12_4.size + 2 + a2.size + 1) = False := eq_false (Nat.not_lt.2 (by have h_ := c42; simp only [ByteArray.size_append] at h_; exact h_))
                   by_cases c43 : 0 ≤ x13_4
                   ·
                    rw [if_pos c43] at H
                    have c43b0 := eq_true c43
                    have c43b1 : decide (0 ≤ x13_4) = true := decide_eq_true c43
                    clear c43
                    by_cases c44 : x13_4 ≤ (wrap64 (x15_4 + 1))
                    ·
                     rw [if_pos c44] at H
                     have c44b0 := eq_true c44
                     have c44b1 : decide (x13_4 ≤ (wrap64 (x15_4 + 1))) = true := decide_eq_true c44
                     by_cases c45 : (wrap64 (x15_4 + 1)) ≤ (t301.size : Int)
                     ·
                      rw [if_pos c45] at H
                      have c45b0 := eq_true c45
                      have c45b1 : decide ((wrap64 (x15_4 + 1)) ≤ (t301.size : Int)) = true := decide_eq_true c45
                      by_cases c46 : (((x12_4 ++ (⟨#[10, 35]⟩ : ByteArray)) ++ a2) ++ (⟨#[10]⟩ : ByteArray)).size + (t301.extract (x13_4 : Int).toNat ((wrap64 (x15_4 + 1)) : Int).toNat).size ≤ 9223372036854775807
                      ·
                       rw [if_pos c46] at H
                       have c46b0 := eq_true c46
                       have c46b1 : decide ((((x12_4 ++ (⟨#[10, 35]⟩ : ByteArray)) ++ a2) ++ (⟨#[10]⟩ : ByteArray)).size + (t301.extract (x13_4 : Int).toNat ((wrap64 (x15_4 + 1)) : Int).toNat).size ≤ 9223372036854775807) = true := decide_eq_true c46
                       try have c46b2 : (9223372036854775807 < (((x12_4 ++ (⟨#[10, 35]⟩ : ByteArray)) ++ a2) ++ (⟨#[10]⟩ : ByteArray)).size + (t301.extract (x13_4 : Int).toNat ((wrap64 (x15_4 + 1)) : Int).toNat).size) = False := eq_false (Nat.not_lt.2 c46)
                       try have c46b3 : (9223372036854775807 < x12_4.size + 2 + a2.size + 1 + (t301.extract (x13_4 : Int).toNat ((wrap64 (x15_4 + 1)) : Int).toNat).size) = False := eq_false (Nat.not_lt.2 (by have h_ := c46; simp only [ByteArray.size_append] at h_; exact h_))
                       try have c46b4 : (9223372036854775807 < x12_4.size + 2 + a2.size + 1 + (t301.extract (x13_4 : Int).toNat ((wrap64 (x15_4 + 1)) : Int).toNat).size) = False := eq_false (Nat.not_lt.2 (by have h_ := c46; simp only [ByteArray.size_append] at h_; exact h_))
                       have H' := Aside0.mk H
                       clear H
                       have p38 : 0 ≤ (x15_4 : Int) := of_decide_eq_true (by first | (with_reducible assumption) | assumption)
                       have q38 : x15_4 < (t301.size : Int) := of_decide_eq_true (by first | (with_reducible assumption) | assumption)
                       have hx38 := bt_at t301 x15_4
                       replace p38 := eq_true p38
                       replace q38 := eq_true q38
                       go_wp2
                       go_roundg k4
                       case measure => have := HJ5.out; have := HK2.out; have := HJ19.out; have := HK4.out; omega
                       case rel => exact ⟨((((x12_4 ++ (⟨#[10, 35]⟩ : ByteArray)) ++ a2) ++ (⟨#[10]⟩ : ByteArray)) ++ (t301.extract (x13_4 : Int).toNat ((wrap64 (x15_4 + 1)) : Int).toNat)), (wrap64 (x15_4 + 1)), (wrap64 (x15_4 + 1)), (by first | rfl | (simp; done) | (simp [*]; done)), (by first | rfl | (simp; done) | (simp [*]; done)), (by first | rfl | (simp; done) | (simp [*]; done)), H', ⟨by have := HJ5.out; have := HK2.out; have := HJ19.out; have := HK4.out; omega⟩, ⟨by (with_reducible repeat (first | apply Kd.N_alloc | apply Kd.N_drewN | apply Kd.N_drew)); exact HO_8.out⟩, ⟨by repeat (first | (with_reducible first | exact HB.out | apply zad | apply zab | apply zac) | exact HB.out)⟩⟩
                      ·
                       rw [if_neg c46] at H
                       exact absurd H (by simp)
                     ·
                      rw [if_neg c45] at H
                      exact absurd H (by simp)
                    ·
                     rw [if_neg c44] at H
                     exact absurd H (by simp)
                   ·
                    rw [if_neg c43] at H
                    exact absurd H (by simp)
                  ·
                   rw [if_neg c42] at H
                   exact absurd H (by simp)
                 ·
                  rw [if_neg c41] at H
                  exact absurd H (by simp)
                ·
                 rw [if_neg c40] at H
                 exact absurd H (by simp)
               ·
                rw [if_neg c39] at H
                have c39b0 : ((bt t301 x15_4) == 10) = false := beq_eq_false_iff_ne.mpr c39
                have c39b1 : ((bt t301 x15_4) != 10) = true := bne_iff_ne.mpr c39
                have H' := Aside0.mk H
                clear H
                have p38 : 0 ≤ (x15_4 : Int) := of_decide_eq_true (by first | (with_reducible assumption) | assumption)
                have q38 : x15_4 < (t301.size : Int) := of_decide_eq_true (by first | (with_reducible assumption) | assumption)
                have hx38 := bt_at t301 x15_4
                replace p38 := eq_true p38
                replace q38 := eq_true q38
                go_wp2
                go_roundg k4
                case measure => have := HJ5.out; have := HK2.out; have := HJ19.out; have := HK4.out; omega
                case rel => exact ⟨(x12_4), (x13_4), (wrap64 (x15_4 + 1)), (by first | rfl | (simp; done) | (simp [*]; done)), (by first | rfl | (simp; done) | (simp [*]; done)), (by first | rfl | (simp; done) | (simp [*]; done)), H', ⟨by have := HJ5.out; have := HK2.out; have := HJ19.out; have := HK4.out; omega⟩, ⟨by (with_reducible repeat (first | apply Kd.N_alloc | apply Kd.N_drewN | apply Kd.N_drew)); exact HO_8.out⟩, ⟨by repeat (first | (with_reducible first | exact HB.out | apply zad | apply zab | apply zac) | exact HB.out)⟩⟩
              ·
               rw [if_neg c37] at H
               exact absurd H (by simp)
             ·
              rw [if_neg c36] at H
              have c36b0 : decide (x15_4 < (t301.size : Int)) = false := decide_eq_false c36
              clear c36
              replace H := Option.bind_eq_some_iff.mp H
              obtain ⟨⟨t302, t303⟩, A470, H⟩ := H
              replace H : (if t303 = t286 then ((cofferlaw22_told.f k4 t285).bind fun t306 => ((cofferlaw22_told.f k4 t302).bind fun t309 => ((cofferref22_Same.f t306 t309).bind fun t312 => (cofferlaw22_ScriptLines.j4 k4 a1 t285 t286 t301 (!t312))))) else (cofferlaw22_ScriptLines.j4 k4 a1 t285 t286 t301 true)) = some r := H
              have A47 := Aside0.mk A470
              clear A470
              have HC48 := Aside0.mk H
              clear H
              go_upto_region 24 with (first | ((with_reducible refine zas (f := 18) rfl ?_); refine zba (some 95) rfl rfl Tryd.func18 (by kernel_rfl) rfl #[.string x12_4] rfl (by (try simp only [List.map_toArray, List.map_cons, List.map_nil]); first | done | rfl | (simp only [List.length_drop, List.length_take]; rfl)) ?_; (with_reducible refine (script_Parse.calls k4 x12_4 t302 t303 _ ?side1 A47.out).mono ?_); (case side1 => exact zaz HT.out (by repeat (first | (with_reducible first | exact HB.out | apply zad | apply zab | apply zac) | exact HB.out))); rintro e w49 ⟨v304, rfl, ho0, hb⟩; refine ⟨_, rfl, ?_⟩; have n0_ := Aside0.mk (Kd.N_elder' (by (with_reducible repeat (first | apply Kd.N_alloc | apply Kd.N_drewN | apply Kd.N_drew)); exact HO_8.out) (Kd.N_base (Kd.S_N ho0)) hb); have n1_ := Aside0.mk (Kd.N_lower (Kd.N_mono (ok' := fun k_ => some k_ ≠ (v287 : Value).ownBlock) (Kd.S_N (Kd.S_bound ho0)) (fun k_ hk_ => (Kd.fresh' (Kd.N_lt (by (with_reducible repeat (first | apply Kd.N_alloc | apply Kd.N_drewN | apply Kd.N_drew)); exact HO_8.out)) k_ hk_.2.1))) (zaj (by repeat (first | (with_reducible first | exact HB.out | apply zad | apply zab | apply zac) | exact HB.out)))); have n2_ := Aside0.mk (zan (by repeat (first | (with_reducible first | exact HB.out | apply zad | apply zab | apply zac) | exact HB.out)) hb); clear HO_8; clear HB; have HO_8 := n0_; have HO305 := n1_; have HB := n2_; clear n0_ n1_ n2_; (try clear hb); (try clear hb2); (try clear hk); (try clear hi); (try clear ho0)))
              (try simp only [Act.put, List.setIfInBounds_toArray, List.set_cons_zero, List.set_cons_succ])
              go_cut [108] (fun v108 wc => ∃ (kq : Nat) (x108_47 : Bool), v108 = .bool x108_47 ∧ Aside0 (cofferlaw22_ScriptLines.j4 kq a1 t285 t286 t301 x108_47 = some r) ∧ Aside0 (kq ≤ k4) ∧ Aside0 (Kd.N k36 36 wc w.heap.size (fun _ => True) v287 t285) ∧ Aside0 (Below w.heap.size w wc))
              case first =>
               have H := HC48.out
               clear HC48
               by_cases c50 : t303 = t286
               ·
                rw [if_pos c50] at H
                have c50b0 : (t303 == t286) = true := beq_iff_eq.mpr c50
                have c50b1 : (t303 != t286) = false := bne_eq_false_iff_eq.mpr c50
                clear c50
                (first | rw [c50b0] | (simp only [i64_w, i32_w]; rw [c50b0]) | rw [c50b2] | skip)
                replace H := Option.bind_eq_some_iff.mp H
                obtain ⟨t306, A510, H⟩ := H
                replace H : ((cofferlaw22_told.f k4 t302).bind fun t309 => ((cofferref22_Same.f t306 t309).bind fun t312 => (cofferlaw22_ScriptLines.j4 k4 a1 t285 t286 t301 (!t312)))) = some r := H
                have A51 := Aside0.mk A510
                clear A510
                replace H := Option.bind_eq_some_iff.mp H
                obtain ⟨t309, A520, H⟩ := H
                replace H : ((cofferref22_Same.f t306 t309).bind fun t312 => (cofferlaw22_ScriptLines.j4 k4 a1 t285 t286 t301 (!t312))) = some r := H
                have A52 := Aside0.mk A520
                clear A520
                replace H := Option.bind_eq_some_iff.mp H
                obtain ⟨t312, A530, H⟩ := H
                replace H : (cofferlaw22_ScriptLines.j4 k4 a1 t285 t286 t301 (!t312)) = some r := H
                have A53 := Aside0.mk A530
                clear A530
                have H' := Aside0.mk H
                clear H
                obtain ⟨Ao54, co54, eo54⟩ := Kd.N_slice HO_8.out
                subst eo54
                go_wp2_with (first | (go_at_call 15; (with_reducible refine (cofferlaw22_told.calls k4 _ _ t285 t306 _ ?side1 ?side2 A51.out).mono ?_); (case side1 => repeat (first | exact (Kd.N_reads' HO_8.out).2.2 | (with_reducible refine Kd.C_alloc ?_ _) | (with_reducible refine Kd.C_drewN ?_ _) | (with_reducible refine Kd.C_drew ?_))); (case side2 => exact (Kd.N_reads' HO_8.out).2.1); rintro e w55 ⟨v307, rfl, ho0, hb⟩; have n0_ := Aside0.mk (Kd.N_elder' (by (with_reducible repeat (first | apply Kd.N_alloc | apply Kd.N_drewN | apply Kd.N_drew)); exact HO_8.out) (Kd.N_base (Kd.S_N ho0)) hb); have n1_ := Aside0.mk (Kd.N_elder' (by (with_reducible repeat (first | apply Kd.N_alloc | apply Kd.N_drewN | apply Kd.N_drew)); exact HO305.out) (Kd.N_base (Kd.S_N ho0)) hb); have n2_ := Aside0.mk (Kd.N_lower (Kd.N_mono (ok' := fun k_ => some k_ ≠ (.slice Ao54 t285.length co54 : Value).ownBlock ∧ some k_ ≠ (v304 : Value).ownBlock) (Kd.S_N (Kd.S_bound ho0)) (fun k_ hk_ => ⟨(Kd.fresh' (Kd.N_lt (by (with_reducible repeat (first | apply Kd.N_alloc | apply Kd.N_drewN | apply Kd.N_drew)); exact HO_8.out)) k_ hk_.2.1), (Kd.fresh' (Kd.N_lt (by (with_reducible repeat (first | apply Kd.N_alloc | apply Kd.N_drewN | apply Kd.N_drew)); exact HO305.out)) k_ hk_.2.1)⟩)) (zaj (by repeat (first | (with_reducible first | exact HB.out | apply zad | apply zab | apply zac) | exact HB.out)))); have n3_ := Aside0.mk (zan (by repeat (first | (with_reducible first | exact HB.out | apply zad | apply zab | apply zac) | exact HB.out)) hb); clear HO_8; clear HO305; clear HB; have HO_8 := n0_; have HO305 := n1_; have HO308 := n2_; have HB := n3_; clear n0_ n1_ n2_ n3_; (try clear hb); (try clear hb2); (try clear hk); (try clear hi); (try clear ho0); obtain ⟨Ao56, co56, eo56⟩ := Kd.N_slice HO305.out; subst eo56) | (go_at_call 15; (with_reducible refine (cofferlaw22_told.calls k4 _ _ t302 t309 _ ?side1 ?side2 A52.out).mono ?_); (case side1 => repeat (first | exact (Kd.N_reads' HO305.out).2.2 | (with_reducible refine Kd.C_alloc ?_ _) | (with_reducible refine Kd.C_drewN ?_ _) | (with_reducible refine Kd.C_drew ?_))); (case side2 => exact (Kd.N_reads' HO305.out).2.1); rintro e w57 ⟨v310, rfl, ho0, hb⟩; have n0_ := Aside0.mk (Kd.N_elder' (by (with_reducible repeat (first | apply Kd.N_alloc | apply Kd.N_drewN | apply Kd.N_drew)); exact HO_8.out) (Kd.N_base (Kd.S_N ho0)) hb); have n1_ := Aside0.mk (Kd.N_elder' (by (with_reducible repeat (first | apply Kd.N_alloc | apply Kd.N_drewN | apply Kd.N_drew)); exact HO305.out) (Kd.N_base (Kd.S_N ho0)) hb); have n2_ := Aside0.mk (Kd.N_elder' (by (with_reducible repeat (first | apply Kd.N_alloc | apply Kd.N_drewN | apply Kd.N_drew)); exact HO308.out) (Kd.N_base (Kd.S_N ho0)) hb); have n3_ := Aside0.mk (Kd.N_lower (Kd.N_mono (ok' := fun k_ => some k_ ≠ (.slice Ao54 t285.length co54 : Value).ownBlock ∧ some k_ ≠ (.slice Ao56 t302.length co56 : Value).ownBlock ∧ some k_ ≠ (v307 : Value).ownBlock) (Kd.S_N (Kd.S_bound ho0)) (fun k_ hk_ => ⟨(Kd.fresh' (Kd.N_lt (by (with_reducible repeat (first | apply Kd.N_alloc | apply Kd.N_drewN | apply Kd.N_drew)); exact HO_8.out)) k_ hk_.2.1), (Kd.fresh' (Kd.N_lt (by (with_reducible repeat (first | apply Kd.N_alloc | apply Kd.N_drewN | apply Kd.N_drew)); exact HO305.out)) k_ hk_.2.1), (Kd.fresh' (Kd.N_lt (by (with_reducible repeat (first | apply Kd.N_alloc | apply Kd.N_drewN | apply Kd.N_drew)); exact HO308.out)) k_ hk_.2.1)⟩)) (zaj (by repeat (first | (with_reducible first | exact HB.out | apply zad | apply zab | apply zac) | exact HB.out)))); have n4_ := Aside0.mk (zan (by repeat (first | (with_reducible first | exact HB.out | apply zad | apply zab | apply zac) | exact HB.out)) hb); clear HO_8; clear HO305; clear HO308; clear HB; have HO_8 := n0_; have HO305 := n1_; have HO308 := n2_; have HO311 := n3_; have HB := n4_; clear n0_ n1_ n2_ n3_ n4_; (try clear hb); (try clear hb2); (try clear hk); (try clear hi); (try clear ho0); obtain ⟨Ao58, co58, eo58⟩ := Kd.N_slice HO308.out; subst eo58; obtain ⟨Ao59, co59, eo59⟩ := Kd.N_slice HO311.out; subst eo59) | (go_at_call 19; (with_reducible refine (cofferref22_Same.calls _ _ t306 _ _ t309 t312 _ ?side1 ?side2 ?side3 ?side4 A53.out).mono ?_); (case side1 => repeat (first | exact (Kd.N_reads' HO308.out).2.2 | (with_reducible refine Kd.C_alloc ?_ _) | (with_reducible refine Kd.C_drewN ?_ _) | (with_reducible refine Kd.C_drew ?_))); (case side2 => exact (Kd.N_reads' HO308.out).2.1); (case side3 => repeat (first | exact (Kd.N_reads' HO311.out).2.2 | (with_reducible refine Kd.C_alloc ?_ _) | (with_reducible refine Kd.C_drewN ?_ _) | (with_reducible refine Kd.C_drew ?_))); (case side4 => exact (Kd.N_reads' HO311.out).2.1); rintro e w60 ⟨rfl, hb⟩; have n0_ := Aside0.mk (Kd.N_below (by (with_reducible repeat (first | apply Kd.N_alloc | apply Kd.N_drewN | apply Kd.N_drew)); exact HO_8.out) hb); have n1_ := Aside0.mk (Kd.N_below (by (with_reducible repeat (first | apply Kd.N_alloc | apply Kd.N_drewN | apply Kd.N_drew)); exact HO305.out) hb); have n2_ := Aside0.mk (Kd.N_below (by (with_reducible repeat (first | apply Kd.N_alloc | apply Kd.N_drewN | apply Kd.N_drew)); exact HO308.out) hb); have n3_ := Aside0.mk (Kd.N_below (by (with_reducible repeat (first | apply Kd.N_alloc | apply Kd.N_drewN | apply Kd.N_drew)); exact HO311.out) hb); have n4_ := Aside0.mk (zan (by repeat (first | (with_reducible first | exact HB.out | apply zad | apply zab | apply zac) | exact HB.out)) hb); clear HO_8; clear HO305; clear HO308; clear HO311; clear HB; have HO_8 := n0_; have HO305 := n1_; have HO308 := n2_; have HO311 := n3_; have HB := n4_; clear n0_ n1_ n2_ n3_ n4_; (try clear hb); (try clear hb2); (try clear hk); (try clear hi)))
                go_meet
                case rel => exact ⟨_, (!t312), (by first | rfl | (simp; done) | (simp [*]; done)), H', ⟨by have := HJ5.out; have := HK2.out; have := HJ19.out; have := HK4.out; first | omega | exact Nat.le_refl _⟩, ⟨by (with_reducible repeat (first | apply Kd.N_alloc | apply Kd.N_drewN | apply Kd.N_drew)); exact Kd.N_mono HO_8.out (fun _ hk => trivial)⟩, ⟨by repeat (first | (with_reducible first | exact HB.out | apply zad | apply zab | apply zac) | exact HB.out)⟩⟩
               ·
                rw [if_neg c50] at H
                have c50b0 : (t303 == t286) = false := beq_eq_false_iff_ne.mpr c50
                have c50b1 : (t303 != t286) = true := bne_iff_ne.mpr c50
                (first | rw [c50b0] | (simp only [i64_w, i32_w]; rw [c50b0]) | rw [c50b2] | skip)
                have H' := Aside0.mk H
                clear H
                go_wp2
                go_meet
                case rel => exact ⟨_, (true), (by first | rfl | (simp; done) | (simp [*]; done)), H', ⟨by have := HJ5.out; have := HK2.out; have := HJ19.out; have := HK4.out; first | omega | exact Nat.le_refl _⟩, ⟨by (with_reducible repeat (first | apply Kd.N_alloc | apply Kd.N_drewN | apply Kd.N_drew)); exact Kd.N_mono HO_8.out (fun _ hk => trivial)⟩, ⟨by repeat (first | (with_reducible first | exact HB.out | apply zad | apply zab | apply zac) | exact HB.out)⟩⟩
              case rest =>
               clear HC48
               try clear c1
               try clear p1
               try clear q1
               try clear hx1
               try clear c2
               try clear p2
               try clear c3
               try clear p3
               try clear q3
               try clear hx3
               try clear c4
               try clear c5
               try clear p6
               try clear c9
               try clear c11
               try clear c12
               try clear c13
               try clear c13b0
               try clear c14
               try clear c14b0
               try clear p15
               try clear q15
               try clear hx15
               try clear c16
               try clear c16b0
               try clear c16b1
               try clear c18
               try clear c20
               try clear c21
               try clear c23
               try clear c23b0
               try clear c23b1
               try clear c23b2
               try clear c34
               try clear c36
               try clear c36b0
               try clear c37
               try clear c37b0
               try clear p38
               try clear q38
               try clear hx38
               try clear c39
               try clear c39b0
               try clear c39b1
               try clear c40
               try clear c40b0
               try clear c40b1
               try clear c40b2
               try clear c41
               try clear c41b0
               try clear c41b1
               try clear c41b2
               try clear c42
               try clear c42b0
               try clear c42b1
               try clear c42b2
               try clear c43
               try clear c43b0
               try clear c43b1
               try clear c44
               try clear c44b0
               try clear c44b1
               try clear c45
               try clear c45b0
               try clear c45b1
               try clear c46
               try clear c46b0
               try clear c46b1
               try clear c46b2
               try clear c50
               try clear c50b0
               try clear c50b1
               try clear c50b2
               try clear p1
               try clear p15
               try clear p2
               try clear p38
               try clear p6
               try clear q1
               try clear q15
               try clear q38
               obtain ⟨kq, x108_47, rfl, HA, HJ47, HO_8, HB⟩ := hcut
               cases kq with
               | zero => exact absurd HA.out (by simp [cofferlaw22_ScriptLines.j4])
               | succ kj47 =>
                have H := HA.out
                clear HA
                simp only [cofferlaw22_ScriptLines.j4] at H
                by_cases c61 : x108_47 = true
                ·
                 subst c61
                 have H1 : (some false) = some r := by rw [if_pos rfl] at H; exact H
                 clear H
                 have H := H1
                 clear H1
                 obtain rfl := Option.some.inj H
                 go_wp2
                 go_ret
                 exact ⟨by first | rfl | (simp [zal, zam] <;> rfl) | (simp [*, zal, zam] <;> rfl), by repeat (first | (with_reducible first | exact HB.out | apply zad | apply zab | apply zac) | exact HB.out)⟩
                ·
                 replace c61 := Bool.eq_false_iff.mpr c61
                 subst c61
                 have H1 : ((script_Parse.f kj47 a1).bind fun bt313 => (if t286 = 0 then (cofferlaw22_ScriptLines.j5 kj47 a1 t285 t301 bt313.1 (bt313.2 != 0)) else (cofferlaw22_ScriptLines.j5 kj47 a1 t285 t301 bt313.1 true))) = some r := by rw [if_neg (show ¬ (false = true) by decide)] at H; exact H
                 clear H
                 have H := H1
                 clear H1
                 replace H := Option.bind_eq_some_iff.mp H
                 obtain ⟨⟨t313, t314⟩, A620, H⟩ := H
                 replace H : (if t286 = 0 then (cofferlaw22_ScriptLines.j5 kj47 a1 t285 t301 t313 (t314 != 0)) else (cofferlaw22_ScriptLines.j5 kj47 a1 t285 t301 t313 true)) = some r := H
                 have A62 := Aside0.mk A620
                 clear A620
                 have HC63 := Aside0.mk H
                 clear H
                 go_upto_region 27 with (first | ((with_reducible refine zas (f := 18) rfl ?_); refine zba (some 111) rfl rfl Tryd.func18 (by kernel_rfl) rfl #[.string a1] rfl (by (try simp only [List.map_toArray, List.map_cons, List.map_nil]); first | done | rfl | (simp only [List.length_drop, List.length_take]; rfl)) ?_; (with_reducible refine (script_Parse.calls kj47 a1 t313 t314 _ ?side1 A62.out).mono ?_); (case side1 => exact zaz HT.out (by repeat (first | (with_reducible first | exact HB.out | apply zad | apply zab | apply zac) | exact HB.out))); rintro e w64 ⟨v315, rfl, ho0, hb⟩; refine ⟨_, rfl, ?_⟩; have n0_ := Aside0.mk (Kd.N_elder' (by (with_reducible repeat (first | apply Kd.N_alloc | apply Kd.N_drewN | apply Kd.N_drew)); exact HO_8.out) (Kd.N_base (Kd.S_N ho0)) hb); have n1_ := Aside0.mk (Kd.N_lower (Kd.N_mono (ok' := fun k_ => some k_ ≠ (v287 : Value).ownBlock) (Kd.S_N (Kd.S_bound ho0)) (fun k_ hk_ => (Kd.fresh' (Kd.N_lt (by (with_reducible repeat (first | apply Kd.N_alloc | apply Kd.N_drewN | apply Kd.N_drew)); exact HO_8.out)) k_ hk_.2.1))) (zaj (by repeat (first | (with_reducible first | exact HB.out | apply zad | apply zab | apply zac) | exact HB.out)))); have n2_ := Aside0.mk (zan (by repeat (first | (with_reducible first | exact HB.out | apply zad | apply zab | apply zac) | exact HB.out)) hb); clear HO_8; clear HB; have HO_8 := n0_; have HO316 := n1_; have HB := n2_; clear n0_ n1_ n2_; (try clear hb); (try clear hb2); (try clear hk); (try clear hi); (try clear ho0)))
                 (try simp only [Act.put, List.setIfInBounds_toArray, List.set_cons_zero, List.set_cons_succ])
                 go_cut [119] (fun v119 wc => ∃ (kq : Nat) (x119_62 : Bool), v119 = .bool x119_62 ∧ Aside0 (cofferlaw22_ScriptLines.j5 kq a1 t285 t301 t313 x119_62 = some r) ∧ Aside0 (kq ≤ kj47) ∧ Aside0 (Kd.N k36 36 wc w.heap.size (fun k_ => some k_ ≠ (v315 : Value).ownBlock) v287 t285) ∧ Aside0 (Kd.N k36 36 wc w.heap.size (fun k_ => some k_ ≠ (v287 : Value).ownBlock) v315 t313) ∧ Aside0 (Below w.heap.size w wc))
                 case first =>
                  have H := HC63.out
                  clear HC63
                  by_cases c65 : t286 = 0
                  ·
                   rw [if_pos c65] at H
                   have c65b0 : (t286 == 0) = true := beq_iff_eq.mpr c65
                   have c65b1 : (t286 != 0) = false := bne_eq_false_iff_eq.mpr c65
                   clear c65
                   (first | rw [c65b0] | (simp only [i64_w, i32_w]; rw [c65b0]) | rw [c65b2] | skip)
                   have H' := Aside0.mk H
                   clear H
                   go_wp2
                   go_meet
                   case rel => exact ⟨_, ((t314 != 0)), (by first | rfl | (simp; done) | (simp [*]; done)), H', ⟨by have := HJ5.out; have := HK2.out; have := HJ19.out; have := HK4.out; have := HJ47.out; first | omega | exact Nat.le_refl _⟩, ⟨by (with_reducible repeat (first | apply Kd.N_alloc | apply Kd.N_drewN | apply Kd.N_drew)); exact Kd.N_mono HO_8.out (fun _ hk => hk.2)⟩, ⟨by (with_reducible repeat (first | apply Kd.N_alloc | apply Kd.N_drewN | apply Kd.N_drew)); exact HO316.out⟩, ⟨by repeat (first | (with_reducible first | exact HB.out | apply zad | apply zab | apply zac) | exact HB.out)⟩⟩
                  ·
                   rw [if_neg c65] at H
                   have c65b0 : (t286 == 0) = false := beq_eq_false_iff_ne.mpr c65
                   have c65b1 : (t286 != 0) = true := bne_iff_ne.mpr c65
                   (first | rw [c65b0] | (simp only [i64_w, i32_w]; rw [c65b0]) | rw [c65b2] | skip)
                   have H' := Aside0.mk H
                   clear H
                   go_wp2
                   go_meet
                   case rel => exact ⟨_, (true), (by first | rfl | (simp; done) | (simp [*]; done)), H', ⟨by have := HJ5.out; have := HK2.out; have := HJ19.out; have := HK4.out; have := HJ47.out; first | omega | exact Nat.le_refl _⟩, ⟨by (with_reducible repeat (first | apply Kd.N_alloc | apply Kd.N_drewN | apply Kd.N_drew)); exact Kd.N_mono HO_8.out (fun _ hk => hk.2)⟩, ⟨by (with_reducible repeat (first | apply Kd.N_alloc | apply Kd.N_drewN | apply Kd.N_drew)); exact HO316.out⟩, ⟨by repeat (first | (with_reducible first | exact HB.out | apply zad | apply zab | apply zac) | exact HB.out)⟩⟩
                 case rest =>
                  clear HC63
                  try clear c1
                  try clear p1
                  try clear q1
                  try clear hx1
                  try clear c2
                  try clear p2
                  try clear c3
                  try clear p3
                  try clear q3
                  try clear hx3
                  try clear c4
                  try clear c5
                  try clear c6
                  try clear p6
                  try clear c9
                  try clear c11
                  try clear c12
                  try clear c13
                  try clear c13b0
                  try clear c14
                  try clear c14b0
                  try clear p15
                  try clear q15
                  try clear hx15
                  try clear c16
                  try clear c16b0
                  try clear c16b1
                  try clear c18
                  try clear c20
                  try clear c21
                  try clear c23
                  try clear c23b0
                  try clear c23b1
                  try clear c23b2
                  try clear c34
                  try clear c36
                  try clear c36b0
                  try clear c37
                  try clear c37b0
                  try clear p38
                  try clear q38
                  try clear hx38
                  try clear c39
                  try clear c39b0
                  try clear c39b1
                  try clear c40
                  try clear c40b0
                  try clear c40b1
                  try clear c40b2
                  try clear c41
                  try clear c41b0
                  try clear c41b1
                  try clear c41b2
                  try clear c42
                  try clear c42b0
                  try clear c42b1
                  try clear c42b2
                  try clear c43
                  try clear c43b0
                  try clear c43b1
                  try clear c44
                  try clear c44b0
                  try clear c44b1
                  try clear c45
                  try clear c45b0
                  try clear c45b1
                  try clear c46
                  try clear c46b0
                  try clear c46b1
                  try clear c46b2
                  try clear c50
                  try clear c50b0
                  try clear c50b1
                  try clear c50b2
                  try clear c61
                  try clear p64
                  try clear c65
                  try clear c65b0
                  try clear c65b1
                  try clear c65b2
                  try clear p1
                  try clear p15
                  try clear p2
                  try clear p3
                  try clear p38
                  try clear p6
                  try clear q1
                  try clear q15
                  try clear q3
                  try clear q38
                  obtain ⟨kq, x119_62, rfl, HA, HJ62, HO_8, HO_18, HB⟩ := hcut
                  cases kq with
                  | zero => exact absurd HA.out (by simp [cofferlaw22_ScriptLines.j5])
                  | succ kj62 =>
                   have H := HA.out
                   clear HA
                   simp only [cofferlaw22_ScriptLines.j5] at H
                   by_cases c66 : x119_62 = true
                   ·
                    subst c66
                    have H1 : (some true) = some r := by rw [if_pos rfl] at H; exact H
                    clear H
                    have H := H1
                    clear H1
                    obtain rfl := Option.some.inj H
                    go_wp2
                    go_ret
                    exact ⟨by first | rfl | (simp [zal, zam] <;> rfl) | (simp [*, zal, zam] <;> rfl), by repeat (first | (with_reducible first | exact HB.out | apply zad | apply zab | apply zac) | exact HB.out)⟩
                   ·
                    replace c66 := Bool.eq_false_iff.mpr c66
                    subst c66
                    have H1 : (if t301.size + a1.size ≤ 9223372036854775807 then ((script_Parse.f kj62 (t301 ++ a1)).bind fun bt317 => (if bt317.2 = 0 then ((cofferlaw22_told.f kj62 bt317.1).bind fun t321 => ((cofferlaw22_told.f kj62 t285).bind fun t324 => ((cofferlaw22_told.f kj62 t313).bind fun t327 => (if t324.length + t327.length < 879609302220 then ((cofferref22_Same.f t321 (t324 ++ t327)).bind fun t333 => (some t333)) else (none))))) else (some false))) else (none)) = some r := by rw [if_neg (show ¬ (false = true) by decide)] at H; exact H
                    clear H
                    have H := H1
                    clear H1
                    by_cases c67 : t301.size + a1.size ≤ 9223372036854775807
                    ·
                     rw [if_pos c67] at H
                     have c67b0 := eq_true c67
                     have c67b1 : decide (t301.size + a1.size ≤ 9223372036854775807) = true := decide_eq_true c67
                     try have c67b2 : (9223372036854775807 < t301.size + a1.size) = False := eq_false (Nat.not_lt.2 c67)
                     replace H := Option.bind_eq_some_iff.mp H
                     obtain ⟨⟨t317, t318⟩, A680, H⟩ := H
                     replace H : (if t318 = 0 then ((cofferlaw22_told.f kj62 t317).bind fun t321 => ((cofferlaw22_told.f kj62 t285).bind fun t324 => ((cofferlaw22_told.f kj62 t313).bind fun t327 => (if t324.length + t327.length < 879609302220 then ((cofferref22_Same.f t321 (t324 ++ t327)).bind fun t333 => (some t333)) else (none))))) else (some false)) = some r := H
                     have A68 := Aside0.mk A680
                     clear A680
                     by_cases c69 : t318 = 0
                     ·
                      rw [if_pos c69] at H
                      have c69b0 : (t318 == 0) = true := beq_iff_eq.mpr c69
                      have c69b1 : (t318 != 0) = false := bne_eq_false_iff_eq.mpr c69
                      clear c69
                      replace H := Option.bind_eq_some_iff.mp H
                      obtain ⟨t321, A700, H⟩ := H
                      replace H : ((cofferlaw22_told.f kj62 t285).bind fun t324 => ((cofferlaw22_told.f kj62 t313).bind fun t327 => (if t324.length + t327.length < 879609302220 then ((cofferref22_Same.f t321 (t324 ++ t327)).bind fun t333 => (some t333)) else (none)))) = some r := H
                      have A70 := Aside0.mk A700
                      clear A700
                      replace H := Option.bind_eq_some_iff.mp H
                      obtain ⟨t324, A710, H⟩ := H
                      replace H : ((cofferlaw22_told.f kj62 t313).bind fun t327 => (if t324.length + t327.length < 879609302220 then ((cofferref22_Same.f t321 (t324 ++ t327)).bind fun t333 => (some t333)) else (none))) = some r := H
                      have A71 := Aside0.mk A710
                      clear A710
                      replace H := Option.bind_eq_some_iff.mp H
                      obtain ⟨t327, A720, H⟩ := H
                      replace H : (if t324.length + t327.length < 879609302220 then ((cofferref22_Same.f t321 (t324 ++ t327)).bind fun t333 => (some t333)) else (none)) = some r := H
                      have A72 := Aside0.mk A720
                      clear A720
                      by_cases c73 : t324.length + t327.length < 879609302220
                      ·
                       rw [if_pos c73] at H
                       have LMc73 := Aside0.mk c73
                       clear c73
                       obtain ⟨y330, hy330⟩ : ∃ y_ : List (S57), y_ = (t324 ++ t327) := ⟨_, rfl⟩
                       replace H : ((cofferref22_Same.f t321 y330).bind fun t333 => (some t333)) = some r := by first | (rw [hy330]; with_reducible exact H) | (have H2_ := (Option.bind_some _ _).symm.trans H; rw [hy330]; with_reducible exact H2_) | (have H2_ := (Option.bind_some _ _).symm.trans H; with_reducible exact H2_) | with_reducible exact H | (rw [hy330]; exact H) | exact H
                       have Ny330 := Aside0.mk hy330
                       clear hy330
                       replace H := Option.bind_eq_some_iff.mp H
                       obtain ⟨t333, A740, H⟩ := H
                       replace H : (some t333) = some r := H
                       have A74 := Aside0.mk A740
                       clear A740
                       obtain rfl := Option.some.inj H
                       go_wp2_with (first | ((with_reducible refine zas (f := 18) rfl ?_); refine zba (some 124) rfl rfl Tryd.func18 (by kernel_rfl) rfl #[.string (t301 ++ a1)] rfl (by (try simp only [List.map_toArray, List.map_cons, List.map_nil]); first | done | rfl | (simp only [List.length_drop, List.length_take]; rfl)) ?_; (with_reducible refine (script_Parse.calls kj62 (t301 ++ a1) t317 t318 _ ?side1 A68.out).mono ?_); (case side1 => exact zaz HT.out (by repeat (first | (with_reducible first | exact HB.out | apply zad | apply zab | apply zac) | exact HB.out))); rintro e w75 ⟨v319, rfl, ho0, hb⟩; refine ⟨_, rfl, ?_⟩; have n0_ := Aside0.mk (Kd.N_elder' (by (with_reducible repeat (first | apply Kd.N_alloc | apply Kd.N_drewN | apply Kd.N_drew)); exact HO_8.out) (Kd.N_base (Kd.S_N ho0)) hb); have n1_ := Aside0.mk (Kd.N_elder' (by (with_reducible repeat (first | apply Kd.N_alloc | apply Kd.N_drewN | apply Kd.N_drew)); exact HO_18.out) (Kd.N_base (Kd.S_N ho0)) hb); have n2_ := Aside0.mk (Kd.N_lower (Kd.N_mono (ok' := fun k_ => some k_ ≠ (v287 : Value).ownBlock ∧ some k_ ≠ (v315 : Value).ownBlock) (Kd.S_N (Kd.S_bound ho0)) (fun k_ hk_ => ⟨(Kd.fresh' (Kd.N_lt (by (with_reducible repeat (first | apply Kd.N_alloc | apply Kd.N_drewN | apply Kd.N_drew)); exact HO_8.out)) k_ hk_.2.1), (Kd.fresh' (Kd.N_lt (by (with_reducible repeat (first | apply Kd.N_alloc | apply Kd.N_drewN | apply Kd.N_drew)); exact HO_18.out)) k_ hk_.2.1)⟩)) (zaj (by repeat (first | (with_reducible first | exact HB.out | apply zad | apply zab | apply zac) | exact HB.out)))); have n3_ := Aside0.mk (zan (by repeat (first | (with_reducible first | exact HB.out | apply zad | apply zab | apply zac) | exact HB.out)) hb); clear HO_8; clear HO_18; clear HB; have HO_8 := n0_; have HO_18 := n1_; have HO320 := n2_; have HB := n3_; clear n0_ n1_ n2_ n3_; (try clear hb); (try clear hb2); (try clear hk); (try clear hi); (try clear ho0); obtain ⟨Ao76, co76, eo76⟩ := Kd.N_slice HO320.out; subst eo76) | (go_at_call 15; (with_reducible refine (cofferlaw22_told.calls kj62 _ _ t317 t321 _ ?side1 ?side2 A70.out).mono ?_); (case side1 => repeat (first | exact (Kd.N_reads' HO320.out).2.2 | (with_reducible refine Kd.C_alloc ?_ _) | (with_reducible refine Kd.C_drewN ?_ _) | (with_reducible refine Kd.C_drew ?_))); (case side2 => exact (Kd.N_reads' HO320.out).2.1); rintro e w77 ⟨v322, rfl, ho0, hb⟩; have n0_ := Aside0.mk (Kd.N_elder' (by (with_reducible repeat (first | apply Kd.N_alloc | apply Kd.N_drewN | apply Kd.N_drew)); exact HO_8.out) (Kd.N_base (Kd.S_N ho0)) hb); have n1_ := Aside0.mk (Kd.N_elder' (by (with_reducible repeat (first | apply Kd.N_alloc | apply Kd.N_drewN | apply Kd.N_drew)); exact HO_18.out) (Kd.N_base (Kd.S_N ho0)) hb); have n2_ := Aside0.mk (Kd.N_elder' (by (with_reducible repeat (first | apply Kd.N_alloc | apply Kd.N_drewN | apply Kd.N_drew)); exact HO320.out) (Kd.N_base (Kd.S_N ho0)) hb); have n3_ := Aside0.mk (Kd.N_lower (Kd.N_mono (ok' := fun k_ => some k_ ≠ (v287 : Value).ownBlock ∧ some k_ ≠ (v315 : Value).ownBlock ∧ some k_ ≠ (.slice Ao76 t317.length co76 : Value).ownBlock) (Kd.S_N (Kd.S_bound ho0)) (fun k_ hk_ => ⟨(Kd.fresh' (Kd.N_lt (by (with_reducible repeat (first | apply Kd.N_alloc | apply Kd.N_drewN | apply Kd.N_drew)); exact HO_8.out)) k_ hk_.2.1), (Kd.fresh' (Kd.N_lt (by (with_reducible repeat (first | apply Kd.N_alloc | apply Kd.N_drewN | apply Kd.N_drew)); exact HO_18.out)) k_ hk_.2.1), (Kd.fresh' (Kd.N_lt (by (with_reducible repeat (first | apply Kd.N_alloc | apply Kd.N_drewN | apply Kd.N_drew)); exact HO320.out)) k_ hk_.2.1)⟩)) (zaj (by repeat (first | (with_reducible first | exact HB.out | apply zad | apply zab | apply zac) | exact HB.out)))); have n4_ := Aside0.mk (zan (by repeat (first | (with_reducible first | exact HB.out | apply zad | apply zab | apply zac) | exact HB.out)) hb); clear HO_8; clear HO_18; clear HO320; clear HB; have HO_8 := n0_; have HO_18 := n1_; have HO320 := n2_; have HO323 := n3_; have HB := n4_; clear n0_ n1_ n2_ n3_ n4_; (try clear hb); (try clear hb2); (try clear hk); (try clear hi); (try clear ho0); obtain ⟨Ao78, co78, eo78⟩ := Kd.N_slice HO_8.out; subst eo78) | (go_at_call 15; (with_reducible refine (cofferlaw22_told.calls kj62 _ _ t285 t324 _ ?side1 ?side2 A71.out).mono ?_); (case side1 => repeat (first | exact (Kd.N_reads' HO_8.out).2.2 | (with_reducible refine Kd.C_alloc ?_ _) | (with_reducible refine Kd.C_drewN ?_ _) | (with_reducible refine Kd.C_drew ?_))); (case side2 => exact (Kd.N_reads' HO_8.out).2.1); rintro e w79 ⟨v325, rfl, ho0, hb⟩; have n0_ := Aside0.mk (Kd.N_elder' (by (with_reducible repeat (first | apply Kd.N_alloc | apply Kd.N_drewN | apply Kd.N_drew)); exact HO_8.out) (Kd.N_base (Kd.S_N ho0)) hb); have n1_ := Aside0.mk (Kd.N_elder' (by (with_reducible repeat (first | apply Kd.N_alloc | apply Kd.N_drewN | apply Kd.N_drew)); exact HO_18.out) (Kd.N_base (Kd.S_N ho0)) hb); have n2_ := Aside0.mk (Kd.N_elder' (by (with_reducible repeat (first | apply Kd.N_alloc | apply Kd.N_drewN | apply Kd.N_drew)); exact HO320.out) (Kd.N_base (Kd.S_N ho0)) hb); have n3_ := Aside0.mk (Kd.N_elder' (by (with_reducible repeat (first | apply Kd.N_alloc | apply Kd.N_drewN | apply Kd.N_drew)); exact HO323.out) (Kd.N_base (Kd.S_N ho0)) hb); have n4_ := Aside0.mk (Kd.N_lower (Kd.N_mono (ok' := fun k_ => some k_ ≠ (.slice Ao78 t285.length co78 : Value).ownBlock ∧ some k_ ≠ (v315 : Value).ownBlock ∧ some k_ ≠ (.slice Ao76 t317.length co76 : Value).ownBlock ∧ some k_ ≠ (v322 : Value).ownBlock) (Kd.S_N (Kd.S_bound ho0)) (fun k_ hk_ => ⟨(Kd.fresh' (Kd.N_lt (by (with_reducible repeat (first | apply Kd.N_alloc | apply Kd.N_drewN | apply Kd.N_drew)); exact HO_8.out)) k_ hk_.2.1), (Kd.fresh' (Kd.N_lt (by (with_reducible repeat (first | apply Kd.N_alloc | apply Kd.N_drewN | apply Kd.N_drew)); exact HO_18.out)) k_ hk_.2.1), (Kd.fresh' (Kd.N_lt (by (with_reducible repeat (first | apply Kd.N_alloc | apply Kd.N_drewN | apply Kd.N_drew)); exact HO320.out)) k_ hk_.2.1), (Kd.fresh' (Kd.N_lt (by (with_reducible repeat (first | apply Kd.N_alloc | apply Kd.N_drewN | apply Kd.N_drew)); exact HO323.out)) k_ hk_.2.1)⟩)) (zaj (by repeat (first | (with_reducible first | exact HB.out | apply zad | apply zab | apply zac) | exact HB.out)))); have n5_ := Aside0.mk (zan (by repeat (first | (with_reducible first | exact HB.out | apply zad | apply zab | apply zac) | exact HB.out)) hb); clear HO_8; clear HO_18; clear HO320; clear HO323; clear HB; have HO_8 := n0_; have HO_18 := n1_; have HO320 := n2_; have HO323 := n3_; have HO326 := n4_; have HB := n5_; clear n0_ n1_ n2_ n3_ n4_ n5_; (try clear hb); (try clear hb2); (try clear hk); (try clear hi); (try clear ho0); obtain ⟨Ao80, co80, eo80⟩ := Kd.N_slice HO_18.out; subst eo80) | (go_at_call 15; (with_reducible refine (cofferlaw22_told.calls kj62 _ _ t313 t327 _ ?side1 ?side2 A72.out).mono ?_); (case side1 => repeat (first | exact (Kd.N_reads' HO_18.out).2.2 | (with_reducible refine Kd.C_alloc ?_ _) | (with_reducible refine Kd.C_drewN ?_ _) | (with_reducible refine Kd.C_drew ?_))); (case side2 => exact (Kd.N_reads' HO_18.out).2.1); rintro e w81 ⟨v328, rfl, ho0, hb⟩; have n0_ := Aside0.mk (Kd.N_elder' (by (with_reducible repeat (first | apply Kd.N_alloc | apply Kd.N_drewN | apply Kd.N_drew)); exact HO_8.out) (Kd.N_base (Kd.S_N ho0)) hb); have n1_ := Aside0.mk (Kd.N_elder' (by (with_reducible repeat (first | apply Kd.N_alloc | apply Kd.N_drewN | apply Kd.N_drew)); exact HO_18.out) (Kd.N_base (Kd.S_N ho0)) hb); have n2_ := Aside0.mk (Kd.N_elder' (by (with_reducible repeat (first | apply Kd.N_alloc | apply Kd.N_drewN | apply Kd.N_drew)); exact HO320.out) (Kd.N_base (Kd.S_N ho0)) hb); have n3_ := Aside0.mk (Kd.N_elder' (by (with_reducible repeat (first | apply Kd.N_alloc | apply Kd.N_drewN | apply Kd.N_drew)); exact HO323.out) (Kd.N_base (Kd.S_N ho0)) hb); have n4_ := Aside0.mk (Kd.N_elder' (by (with_reducible repeat (first | apply Kd.N_alloc | apply Kd.N_drewN | apply Kd.N_drew)); exact HO326.out) (Kd.N_base (Kd.S_N ho0)) hb); have n5_ := Aside0.mk (Kd.N_lower (Kd.N_mono (ok' := fun k_ => some k_ ≠ (.slice Ao78 t285.length co78 : Value).ownBlock ∧ some k_ ≠ (.slice Ao80 t313.length co80 : Value).ownBlock ∧ some k_ ≠ (.slice Ao76 t317.length co76 : Value).ownBlock ∧ some k_ ≠ (v322 : Value).ownBlock ∧ some k_ ≠ (v325 : Value).ownBlock) (Kd.S_N (Kd.S_bound ho0)) (fun k_ hk_ => ⟨(Kd.fresh' (Kd.N_lt (by (with_reducible repeat (first | apply Kd.N_alloc | apply Kd.N_drewN | apply Kd.N_drew)); exact HO_8.out)) k_ hk_.2.1), (Kd.fresh' (Kd.N_lt (by (with_reducible repeat (first | apply Kd.N_alloc | apply Kd.N_drewN | apply Kd.N_drew)); exact HO_18.out)) k_ hk_.2.1), (Kd.fresh' (Kd.N_lt (by (with_reducible repeat (first | apply Kd.N_alloc | apply Kd.N_drewN | apply Kd.N_drew)); exact HO320.out)) k_ hk_.2.1), (Kd.fresh' (Kd.N_lt (by (with_reducible repeat (first | apply Kd.N_alloc | apply Kd.N_drewN | apply Kd.N_drew)); exact HO323.out)) k_ hk_.2.1), (Kd.fresh' (Kd.N_lt (by (with_reducible repeat (first | apply Kd.N_alloc | apply Kd.N_drewN | apply Kd.N_drew)); exact HO326.out)) k_ hk_.2.1)⟩)) (zaj (by repeat (first | (with_reducible first | exact HB.out | apply zad | apply zab | apply zac) | exact HB.out)))); have n6_ := Aside0.mk (zan (by repeat (first | (with_reducible first | exact HB.out | apply zad | apply zab | apply zac) | exact HB.out)) hb); clear HO_8; clear HO_18; clear HO320; clear HO323; clear HO326; clear HB; have HO_8 := n0_; have HO_18 := n1_; have HO320 := n2_; have HO323 := n3_; have HO326 := n4_; have HO329 := n5_; have HB := n6_; clear n0_ n1_ n2_ n3_ n4_ n5_ n6_; (try clear hb); (try clear hb2); (try clear hk); (try clear hi); (try clear ho0); obtain ⟨Ao83, co83, eo83⟩ := Kd.N_slice HO329.out; subst eo83) | ((with_reducible refine zbd (b := .append) (xs := #[.tmp 133, .tmp 135]) rfl ?_); (try (refine zbn (by rfl) ?_; dsimp only)); at_builtin; refine Kd.N_append_rows k57 (w0 := w) w.heap.size rfl (.tmp 133) (.tmp 135) 22 57 (.agg #[(.int .i64 0), (.int .i64 0), (.int .i64 0), (.int .i64 0), (.string ⟨#[]⟩), (.string ⟨#[]⟩), (.string ⟨#[]⟩), (.slice none 0 0), (.int .i64 0), (.int .i64 0), (.slice none 0 0), (.string ⟨#[]⟩)]) 160 rfl Tryd.underlying22 info57 rfl (by decide) (by omega) v325 t324 t327 _ _ _ (fun k_ => some k_ ≠ (.slice Ao78 t285.length co78 : Value).ownBlock ∧ some k_ ≠ (.slice Ao80 t313.length co80 : Value).ownBlock ∧ some k_ ≠ (.slice Ao76 t317.length co76 : Value).ownBlock ∧ some k_ ≠ (v322 : Value).ownBlock) (fun k_ => ((fun k_ => some k_ ≠ (.slice Ao78 t285.length co78 : Value).ownBlock ∧ some k_ ≠ (.slice Ao80 t313.length co80 : Value).ownBlock ∧ some k_ ≠ (.slice Ao76 t317.length co76 : Value).ownBlock ∧ some k_ ≠ (v322 : Value).ownBlock)) k_ ∧ some k_ ≠ (v325 : Value).ownBlock) rfl rfl ?aO ?aR (fun _ hk => hk) ?aF ?aB ?aS ?aL ?_; (case aR => exact (by skip; exact Kd.N_F (Kd.N_mono (ok' := (fun k_ => ((fun k_ => some k_ ≠ (.slice Ao78 t285.length co78 : Value).ownBlock ∧ some k_ ≠ (.slice Ao80 t313.length co80 : Value).ownBlock ∧ some k_ ≠ (.slice Ao76 t317.length co76 : Value).ownBlock ∧ some k_ ≠ (v322 : Value).ownBlock)) k_ ∧ some k_ ≠ (v325 : Value).ownBlock)) (HO329.out) (fun k_ hk => ⟨⟨hk.1, ⟨hk.2.1, ⟨hk.2.2.1, hk.2.2.2.1⟩⟩⟩, hk.2.2.2.2⟩)))); (case aB => exact (by repeat (first | (with_reducible first | exact HB.out | apply zad | apply zab | apply zac) | exact HB.out))); (case aF => exact (fun k_ hk => ⟨Kd.fresh' (Kd.N_lt (by (with_reducible repeat (first | apply Kd.N_alloc | apply Kd.N_drewN | apply Kd.N_drew)); exact HO_8.out)) k_ hk, Kd.fresh' (Kd.N_lt (by (with_reducible repeat (first | apply Kd.N_alloc | apply Kd.N_drewN | apply Kd.N_drew)); exact HO_18.out)) k_ hk, Kd.fresh' (Kd.N_lt (by (with_reducible repeat (first | apply Kd.N_alloc | apply Kd.N_drewN | apply Kd.N_drew)); exact HO320.out)) k_ hk, Kd.fresh' (Kd.N_lt (by (with_reducible repeat (first | apply Kd.N_alloc | apply Kd.N_drewN | apply Kd.N_drew)); exact HO323.out)) k_ hk⟩)); (case aO => exact (by (with_reducible repeat (first | apply Kd.N_alloc | apply Kd.N_drewN | apply Kd.N_drew)); exact Kd.N_mono HO326.out (fun _ hk => ⟨hk.1.1, ⟨hk.1.2.1, ⟨hk.1.2.2.1, hk.1.2.2.2⟩⟩⟩))); (case aS => exact (zaj (by repeat (first | (with_reducible first | exact HB.out | apply zad | apply zab | apply zac) | exact HB.out)))); (case aL => have := LMc73.out; omega); intro v331 w82 ho hb hg hat; rw [← Ny330.out] at ho; have n0_ := Aside0.mk (Kd.N_afterv (ok := (fun k_ => some k_ ≠ (.slice Ao80 t313.length co80 : Value).ownBlock ∧ some k_ ≠ (.slice Ao76 t317.length co76 : Value).ownBlock ∧ some k_ ≠ (v322 : Value).ownBlock ∧ some k_ ≠ (.slice Ao83 t327.length co83 : Value).ownBlock)) (by (with_reducible repeat (first | apply Kd.N_alloc | apply Kd.N_drewN | apply Kd.N_drew)); exact Kd.N_mono HO_8.out (fun _ hk => ⟨⟨hk.1.1.1.1, ⟨hk.1.1.1.2, ⟨hk.1.1.2, hk.2⟩⟩⟩, hk.1.2⟩)) hg hat); have n1_ := Aside0.mk (Kd.N_afterv (ok := (fun k_ => some k_ ≠ (.slice Ao78 t285.length co78 : Value).ownBlock ∧ some k_ ≠ (.slice Ao76 t317.length co76 : Value).ownBlock ∧ some k_ ≠ (v322 : Value).ownBlock ∧ some k_ ≠ (.slice Ao83 t327.length co83 : Value).ownBlock)) (by (with_reducible repeat (first | apply Kd.N_alloc | apply Kd.N_drewN | apply Kd.N_drew)); exact Kd.N_mono HO_18.out (fun _ hk => ⟨⟨hk.1.1.1.1, ⟨hk.1.1.1.2, ⟨hk.1.1.2, hk.2⟩⟩⟩, hk.1.2⟩)) hg hat); have n2_ := Aside0.mk (Kd.N_afterv (ok := (fun k_ => some k_ ≠ (.slice Ao78 t285.length co78 : Value).ownBlock ∧ some k_ ≠ (.slice Ao80 t313.length co80 : Value).ownBlock ∧ some k_ ≠ (v322 : Value).ownBlock ∧ some k_ ≠ (.slice Ao83 t327.length co83 : Value).ownBlock)) (by (with_reducible repeat (first | apply Kd.N_alloc | apply Kd.N_drewN | apply Kd.N_drew)); exact Kd.N_mono HO320.out (fun _ hk => ⟨⟨hk.1.1.1.1, ⟨hk.1.1.1.2, ⟨hk.1.1.2, hk.2⟩⟩⟩, hk.1.2⟩)) hg hat); have n3_ := Aside0.mk (Kd.N_afterv (ok := (fun k_ => some k_ ≠ (.slice Ao78 t285.length co78 : Value).ownBlock ∧ some k_ ≠ (.slice Ao80 t313.length co80 : Value).ownBlock ∧ some k_ ≠ (.slice Ao76 t317.length co76 : Value).ownBlock ∧ some k_ ≠ (.slice Ao83 t327.length co83 : Value).ownBlock)) (by (with_reducible repeat (first | apply Kd.N_alloc | apply Kd.N_drewN | apply Kd.N_drew)); exact Kd.N_mono HO323.out (fun _ hk => ⟨⟨hk.1.1.1, ⟨hk.1.1.2.1, ⟨hk.1.1.2.2, hk.2⟩⟩⟩, hk.1.2⟩)) hg hat); have n4_ := Aside0.mk (Kd.N_afterv (ok := (fun k_ => some k_ ≠ (.slice Ao78 t285.length co78 : Value).ownBlock ∧ some k_ ≠ (.slice Ao80 t313.length co80 : Value).ownBlock ∧ some k_ ≠ (.slice Ao76 t317.length co76 : Value).ownBlock ∧ some k_ ≠ (v322 : Value).ownBlock)) (by (with_reducible repeat (first | apply Kd.N_alloc | apply Kd.N_drewN | apply Kd.N_drew)); exact Kd.N_mono HO329.out (fun _ hk => ⟨⟨hk.1, ⟨hk.2.1, ⟨hk.2.2.1, hk.2.2.2.1⟩⟩⟩, hk.2.2.2.2⟩)) hg hat); have n5_ := Aside0.mk (hb); have n6_ := Aside0.mk (ho); clear HO_8; clear HO_18; clear HO320; clear HO323; clear HO329; clear HB; clear HO326; have HO_8 := n0_; have HO_18 := n1_; have HO320 := n2_; have HO323 := n3_; have HO329 := n4_; have HB := n5_; have HO332 := n6_; clear n0_ n1_ n2_ n3_ n4_ n5_ n6_; clear ho hb hg hat; obtain ⟨Ao84, co84, eo84⟩ := Kd.N_slice HO323.out; subst eo84; obtain ⟨Ao85, co85, eo85⟩ := Kd.N_slice HO332.out; subst eo85) | (go_at_call 19; (with_reducible refine (cofferref22_Same.calls _ _ t321 _ _ y330 t333 _ ?side1 ?side2 ?side3 ?side4 A74.out).mono ?_); (case side1 => repeat (first | exact (Kd.N_reads' HO323.out).2.2 | (with_reducible refine Kd.C_alloc ?_ _) | (with_reducible refine Kd.C_drewN ?_ _) | (with_reducible refine Kd.C_drew ?_))); (case side2 => exact (Kd.N_reads' HO323.out).2.1); (case side3 => repeat (first | exact (Kd.N_reads' HO332.out).2.2 | (with_reducible refine Kd.C_alloc ?_ _) | (with_reducible refine Kd.C_drewN ?_ _) | (with_reducible refine Kd.C_drew ?_))); (case side4 => exact (Kd.N_reads' HO332.out).2.1); rintro e w86 ⟨rfl, hb⟩; have n0_ := Aside0.mk (Kd.N_below (by (with_reducible repeat (first | apply Kd.N_alloc | apply Kd.N_drewN | apply Kd.N_drew)); exact HO_8.out) hb); have n1_ := Aside0.mk (Kd.N_below (by (with_reducible repeat (first | apply Kd.N_alloc | apply Kd.N_drewN | apply Kd.N_drew)); exact HO_18.out) hb); have n2_ := Aside0.mk (Kd.N_below (by (with_reducible repeat (first | apply Kd.N_alloc | apply Kd.N_drewN | apply Kd.N_drew)); exact HO320.out) hb); have n3_ := Aside0.mk (Kd.N_below (by (with_reducible repeat (first | apply Kd.N_alloc | apply Kd.N_drewN | apply Kd.N_drew)); exact HO323.out) hb); have n4_ := Aside0.mk (Kd.N_below (by (with_reducible repeat (first | apply Kd.N_alloc | apply Kd.N_drewN | apply Kd.N_drew)); exact HO329.out) hb); have n5_ := Aside0.mk (Kd.N_below (by (with_reducible repeat (first | apply Kd.N_alloc | apply Kd.N_drewN | apply Kd.N_drew)); exact HO332.out) hb); have n6_ := Aside0.mk (zan (by repeat (first | (with_reducible first | exact HB.out | apply zad | apply zab | apply zac) | exact HB.out)) hb); clear HO_8; clear HO_18; clear HO320; clear HO323; clear HO329; clear HO332; clear HB; have HO_8 := n0_; have HO_18 := n1_; have HO320 := n2_; have HO323 := n3_; have HO329 := n4_; have HO332 := n5_; have HB := n6_; clear n0_ n1_ n2_ n3_ n4_ n5_ n6_; (try clear hb); (try clear hb2); (try clear hk); (try clear hi)))
                       go_ret
                       exact ⟨by first | rfl | (simp [zal, zam] <;> rfl) | (simp [*, zal, zam] <;> rfl), by repeat (first | (with_reducible first | exact HB.out | apply zad | apply zab | apply zac) | exact HB.out)⟩
                      ·
                       rw [if_neg c73] at H
                       exact absurd H (by simp)
                     ·
                      rw [if_neg c69] at H
                      have c69b0 : (t318 == 0) = false := beq_eq_false_iff_ne.mpr c69
                      have c69b1 : (t318 != 0) = true := bne_iff_ne.mpr c69
                      obtain rfl := Option.some.inj H
                      go_wp2_with (first | ((with_reducible refine zas (f := 18) rfl ?_); refine zba (some 124) rfl rfl Tryd.func18 (by kernel_rfl) rfl #[.string (t301 ++ a1)] rfl (by (try simp only [List.map_toArray, List.map_cons, List.map_nil]); first | done | rfl | (simp only [List.length_drop, List.length_take]; rfl)) ?_; (with_reducible refine (script_Parse.calls kj62 (t301 ++ a1) t317 t318 _ ?side1 A68.out).mono ?_); (case side1 => exact zaz HT.out (by repeat (first | (with_reducible first | exact HB.out | apply zad | apply zab | apply zac) | exact HB.out))); rintro e w87 ⟨v319, rfl, ho0, hb⟩; refine ⟨_, rfl, ?_⟩; have n0_ := Aside0.mk (Kd.N_elder' (by (with_reducible repeat (first | apply Kd.N_alloc | apply Kd.N_drewN | apply Kd.N_drew)); exact HO_8.out) (Kd.N_base (Kd.S_N ho0)) hb); have n1_ := Aside0.mk (Kd.N_elder' (by (with_reducible repeat (first | apply Kd.N_alloc | apply Kd.N_drewN | apply Kd.N_drew)); exact HO_18.out) (Kd.N_base (Kd.S_N ho0)) hb); have n2_ := Aside0.mk (Kd.N_lower (Kd.N_mono (ok' := fun k_ => some k_ ≠ (v287 : Value).ownBlock ∧ some k_ ≠ (v315 : Value).ownBlock) (Kd.S_N (Kd.S_bound ho0)) (fun k_ hk_ => ⟨(Kd.fresh' (Kd.N_lt (by (with_reducible repeat (first | apply Kd.N_alloc | apply Kd.N_drewN | apply Kd.N_drew)); exact HO_8.out)) k_ hk_.2.1), (Kd.fresh' (Kd.N_lt (by (with_reducible repeat (first | apply Kd.N_alloc | apply Kd.N_drewN | apply Kd.N_drew)); exact HO_18.out)) k_ hk_.2.1)⟩)) (zaj (by repeat (first | (with_reducible first | exact HB.out | apply zad | apply zab | apply zac) | exact HB.out)))); have n3_ := Aside0.mk (zan (by repeat (first | (with_reducible first | exact HB.out | apply zad | apply zab | apply zac) | exact HB.out)) hb); clear HO_8; clear HO_18; clear HB; have HO_8 := n0_; have HO_18 := n1_; have HO320 := n2_; have HB := n3_; clear n0_ n1_ n2_ n3_; (try clear hb); (try clear hb2); (try clear hk); (try clear hi); (try clear ho0)))
                      go_ret
                      exact ⟨by first | rfl | (simp [zal, zam] <;> rfl) | (simp [*, zal, zam] <;> rfl), by repeat (first | (with_reducible first | exact HB.out | apply zad | apply zab | apply zac) | exact HB.out)⟩
                    ·
                     rw [if_neg c67] at H
                     exact absurd H (by simp)
 ·
  replace c5 := Bool.eq_false_iff.mpr c5
  subst c5
  have H1 : (some false) = some r := by rw [if_neg (show ¬ (false = true) by decide)] at H; exact H
  clear H
  have H := H1
  clear H1
  obtain rfl := Option.some.inj H
  go_enter Tryd.func5, Tryd.ntmps5
  go_wp2_with (first | ((with_reducible refine zas (f := 16) rfl ?_); refine zba (some 21) rfl rfl Tryd.func16 (by kernel_rfl) rfl #[] rfl (by (try simp only [List.map_toArray, List.map_cons, List.map_nil]); first | done | rfl | (simp only [List.length_drop, List.length_take]; rfl)) ?_; (with_reducible refine (cofferlaw22_first.calls k  false _ ?side1 A4.out).mono ?_); (case side1 => exact zaz HT.out (by repeat (first | (with_reducible first | exact HB.out | apply zad | apply zab | apply zac) | exact HB.out))); rintro e w88 ⟨rfl, hb⟩; refine ⟨_, rfl, ?_⟩; have n0_ := Aside0.mk (zan (by repeat (first | (with_reducible first | exact HB.out | apply zad | apply zab | apply zac) | exact HB.out)) hb); clear HB; have HB := n0_; clear n0_; (try clear hb); (try clear hb2); (try clear hk); (try clear hi)))
  go_ret
  exact ⟨by first | rfl | (simp [zal, zam] <;> rfl) | (simp [*, zal, zam] <;> rfl), by repeat (first | (with_reducible first | exact HB.out | apply zad | apply zab | apply zac) | exact HB.out)⟩

end Go.Proofs.YtdmlgligljagoaaDoor.PS

set_option linter.unusedVariables false
set_option linter.unusedSimpArgs false
namespace Go.Proofs.YtdmlgligljagoaaDoor
open Go.RowKit Go.Proofs.YtdmlgligljagoaaDoorW.PrintWords PS

def fewL : List UInt8 → Nat → Nat → Option Nat
  | [], l, _ => some l
  | c :: r, l, b => if c = 10 then fewL r (l + 1) 0 else if 8000 < b + 1 then none else fewL r l (b + 1)
def fewV (s : List UInt8) : Bool := match fewL s 0 0 with
  | none => false
  | some n => decide (n < 300) && decide (s.length < 25000)
def fewR (s : List UInt8) : Option Nat → Bool
  | none => false
  | some n => decide (n < 300) && decide (s.length < 25000)
theorem u8_10 (c : UInt8) : (c.toNat : Int) = 10 ↔ c = 10 := by
  constructor
  · intro h; exact UInt8.toNat_inj.1 (by simpa using (by omega : c.toNat = 10))
  · rintro rfl; rfl
theorem few_go (s : List UInt8) (hs : s.length ≤ 140737488355328) : ∀ d i l b : Nat, i + d = s.length → l ≤ i → b ≤ 8000 → Ev (fun k => cofferlaw22_few.l0 k (bs s) (l : Int) (b : Int) (i : Int)) (fewR s (fewL (s.drop i) l b)) := by
  intro d
  induction d with
  | zero =>
    intro i l b hi hl hb
    rw [List.drop_of_length_le (by omega)]
    refine Ev.step (f := fun _ => some _) (fun k => ?_) (Ev.now _)
    rw [cofferlaw22_few.l0, zat, if_neg (by omega), fewL, fewR]
    by_cases h : l < 300
    · rw [if_pos (by omega), decide_eq_true h, Bool.true_and]
      by_cases h2 : s.length < 25000
      · rw [decide_eq_true h2, decide_eq_true (by omega)]
      · rw [decide_eq_false h2, decide_eq_false (by omega)]
    · rw [if_neg (by omega), decide_eq_false h, Bool.false_and]
  | succ d ih =>
    intro i l b hi hl hb
    have hlt : i < s.length := by omega
    have b0 : bt (bs s) (i : Int) = ((s[i]'hlt).toNat : Int) := bt_bs s i hlt
    rw [List.drop_eq_getElem_cons hlt]
    generalize s[i] = c at b0 ⊢
    rw [fewL]
    have p1 : wrap64 ((i : Int) + 1) = ((i + 1 : Nat) : Int) := w64s (by omega)
    by_cases hc : c = 10
    · rw [if_pos hc]
      refine Ev.step (fun k => ?_) (ih (i + 1) (l + 1) 0 (by omega) (by omega) (by omega))
      rw [cofferlaw22_few.l0, zat, if_pos (by omega), if_pos (by omega), b0, if_pos ((u8_10 c).2 hc), w64s (by omega), p1]
      rfl
    · rw [if_neg hc]
      have hne : ¬ (c.toNat : Int) = 10 := fun h => hc ((u8_10 c).1 h)
      by_cases h8 : 8000 < b + 1
      · rw [if_pos h8, fewR]
        refine Ev.step (f := fun _ => some _) (fun k => ?_) (Ev.now _)
        rw [cofferlaw22_few.l0, zat, if_pos (by omega), if_pos (by omega), b0, if_neg hne, w64s (by omega), if_pos (by omega)]
      · rw [if_neg h8]
        refine Ev.step (fun k => ?_) (ih (i + 1) l (b + 1) (by omega) (by omega) (by omega))
        rw [cofferlaw22_few.l0, zat, if_pos (by omega), if_pos (by omega), b0, if_neg hne, w64s (by omega), if_neg (by omega), p1]
theorem few_ev (s : List UInt8) (hs : s.length ≤ 140737488355328) : Ev (fun k => cofferlaw22_few.f k (bs s)) (fewV s) := by
  have h := few_go s hs s.length 0 0 0 (by omega) (by omega) (by omega)
  rw [List.drop_zero] at h
  exact h
/-- a text of lines: each line, a byte 10 behind it -/
def textL (ls : List (List UInt8)) : List UInt8 := ls.flatMap (· ++ [10])
def No10 (x : List UInt8) : Prop := ∀ c ∈ x, c ≠ 10
theorem split_textL (ls : List (List UInt8)) (b : List UInt8) (h : ∀ x ∈ ls, No10 x) : zaq (textL ls ++ b) = ls ++ zaq b := by
  induction ls with
  | nil => rfl
  | cons x ls ih =>
    rw [textL, List.flatMap_cons, List.append_assoc, List.append_assoc, List.cons_append, List.nil_append, split_app _ _ (h x List.mem_cons_self)]
    have := ih (fun y hy => h y (List.mem_cons_of_mem _ hy))
    unfold textL at this
    rw [this]; rfl
theorem lines_of : ∀ s : List UInt8, ∃ ls last, s = textL ls ++ last ∧ zaq s = ls ++ [last] ∧ (∀ x ∈ ls, No10 x) ∧ No10 last
  | [] => ⟨[], [], rfl, rfl, fun x hx => by simp at hx, fun c hc => by simp at hc⟩
  | c :: s => by
    obtain ⟨ls, last, h1, h2, h3, h4⟩ := lines_of s
    by_cases hc : c = 10
    · subst hc
      refine ⟨[] :: ls, last, by rw [h1]; rfl, by rw [zaq, if_pos rfl, h2]; rfl, fun x hx => ?_, h4⟩
      rcases List.mem_cons.1 hx with rfl | hx
      · intro c hc; simp at hc
      · exact h3 x hx
    · have hcn : ∀ x, No10 x → No10 (c :: x) := fun x h d hd => by
        rcases List.mem_cons.1 hd with rfl | hd
        · exact hc
        · exact h d hd
      cases ls with
      | nil => exact ⟨[], c :: last, by rw [h1]; rfl, by rw [zaq, if_neg hc, h2]; rfl, h3, hcn _ h4⟩
      | cons a t =>
        refine ⟨(c :: a) :: t, last, by rw [h1]; rfl, by rw [zaq, if_neg hc, h2]; rfl, fun x hx => ?_, h4⟩
        rcases List.mem_cons.1 hx with rfl | hx
        · exact hcn _ (h3 a List.mem_cons_self)
        · exact h3 x (List.mem_cons_of_mem _ hx)
theorem fewL_spec : ∀ (s : List UInt8) (l b n : Nat), fewL s l b = some n → b ≤ 8000 → (zaq s).length + l = n + 1 ∧ ∃ a t, zaq s = a :: t ∧ a.length + b ≤ 8000 ∧ ∀ x ∈ t, x.length ≤ 8000
  | [], l, b, n, h, hb => by
    rw [fewL] at h; cases h
    exact ⟨by simp [zaq]; omega, [], [], rfl, by simpa using hb, fun x hx => by simp at hx⟩
  | c :: r, l, b, n, h, hb => by
    rw [fewL] at h
    split at h
    · next hc =>
      obtain ⟨h1, a, t, h2, h3, h4⟩ := fewL_spec r (l + 1) 0 n h (by omega)
      rw [zaq, if_pos hc]
      refine ⟨by rw [List.length_cons]; omega, [], zaq r, rfl, by simpa using hb, fun x hx => ?_⟩
      rw [h2] at hx
      rcases List.mem_cons.1 hx with rfl | hx
      · omega
      · exact h4 x hx
    · next hc =>
      split at h
      · cases h
      · next h8 =>
        obtain ⟨h1, a, t, h2, h3, h4⟩ := fewL_spec r l (b + 1) n h (by omega)
        rw [zaq, if_neg hc]
        rw [h2] at h1 ⊢
        exact ⟨h1, c :: a, t, rfl, by rw [List.length_cons]; omega, h4⟩
theorem few_spec {s : List UInt8} (h : fewV s = true) : s.length < 25000 ∧ (zaq s).length ≤ 300 ∧ ∀ x ∈ zaq s, x.length ≤ 8000 := by
  unfold fewV at h
  cases hl : fewL s 0 0 with
  | none => rw [hl] at h; simp at h
  | some n =>
    rw [hl] at h
    simp only [Bool.and_eq_true, decide_eq_true_eq] at h
    obtain ⟨h1, a, t, h2, h3, h4⟩ := fewL_spec s 0 0 n hl (by omega)
    refine ⟨h.2, by omega, fun x hx => ?_⟩
    rw [h2] at hx
    rcases List.mem_cons.1 hx with rfl | hx
    · omega
    · exact h4 x hx
theorem not_long {s : List UInt8} (h1 : s.length ≤ 65536) (h2 : (zaq s).length ≤ 1024) (h3 : ∀ x ∈ zaq s, x.length ≤ 8192) : longV s = false := by
  have hsub : ∀ l : List (List UInt8), (∀ x ∈ dropE l, x ∈ l) ∧ (dropE l).length ≤ l.length := fun l => by
    unfold dropE
    split
    · exact ⟨fun x hx => List.dropLast_subset _ hx, by rw [List.length_dropLast]; omega⟩
    · exact ⟨fun x hx => hx, Nat.le_refl _⟩
  obtain ⟨s1, s2⟩ := hsub (zaq s)
  unfold longV
  rw [Bool.or_eq_false_iff, Bool.or_eq_false_iff]
  refine ⟨decide_eq_false (by omega), ?_, decide_eq_false (by omega)⟩
  rw [List.any_eq_false]
  intro x hx
  have := h3 x (s1 x hx)
  simpa using this
theorem parse_of {s : List UInt8} (h : longV s = false) : zax s = parseR (parseG (zaq s)) := by
  unfold zax
  rw [h, if_neg (by simp)]
theorem parseG_end (ls : List (List UInt8)) : parseG (ls ++ [[]]) = parseG ls := by
  rw [parseG_app]
  cases parseG ls with
  | none => rfl
  | some l => simp [parseG]
/-- the text with a byte 10 at its end -/
def endedV (s : List UInt8) : List UInt8 := if s = [] ∨ s.getLast? = some 10 then s else s ++ [10]
theorem ended_is (s : List UInt8) (hs : s.length ≤ 4611686018427387904) : cofferlaw22_ended.f (bs s) = some (bs (endedV s)) := by
  unfold cofferlaw22_ended.f endedV
  by_cases h0 : s = []
  · rw [if_pos (by rw [zbm]; exact h0), if_pos (.inl h0)]
  · have hp : 0 < s.length := List.length_pos_iff.2 h0
    have hw : wrap64 ((s.length : Int) - 1) = ((s.length - 1 : Nat) : Int) := by unfold wrap64; omega
    have hb := bt_bs s (s.length - 1) (by omega)
    have hg : s.getLast? = some (s[s.length - 1]'(by omega)) := by rw [List.getLast?_eq_getElem?, List.getElem?_eq_getElem]
    rw [if_neg (by rw [zbm]; exact h0), zat, hw, if_pos (by omega), if_pos (by omega), hb, hg]
    by_cases h10 : s[s.length - 1]'(by omega) = 10
    · rw [if_pos ((u8_10 _).2 h10), if_pos (.inr (by rw [h10]))]
    · rw [if_neg (fun e => h10 ((u8_10 _).1 e)), if_pos (by omega), if_neg (by simp [h0, h10]), show (⟨#[10]⟩ : ByteArray) = bs [10] from rfl, bs_append]
theorem getLast_textL (ls : List (List UInt8)) (h : ls ≠ []) : (textL ls).getLast? = some 10 := by
  obtain ⟨a, x, rfl⟩ : ∃ a x, ls = a ++ [x] := ⟨ls.dropLast, ls.getLast h, (List.dropLast_concat_getLast h).symm⟩
  unfold textL
  rw [List.flatMap_append, List.flatMap_cons, List.flatMap_nil, List.append_nil, ← List.append_assoc, List.getLast?_concat]
/-- the lines of a text that ends so -/
theorem ended_lines (s : List UInt8) : ∃ ls, endedV s = textL ls ∧ (∀ x ∈ ls, No10 x) ∧ parseG ls = parseG (zaq s) ∧ (∀ x ∈ ls, x ∈ zaq s) ∧ ls.length ≤ (zaq s).length := by
  obtain ⟨ls, last, h1, h2, h3, h4⟩ := lines_of s
  by_cases hl : last = []
  · subst hl
    rw [List.append_nil] at h1
    refine ⟨ls, ?_, h3, by rw [h2, parseG_end], fun x hx => by rw [h2]; exact List.mem_append_left _ hx, by rw [h2, List.length_append]; omega⟩
    unfold endedV
    by_cases h0 : ls = []
    · subst h0; rw [if_pos (.inl h1)]; exact h1
    · rw [if_pos (.inr (by rw [h1]; exact getLast_textL ls h0))]; exact h1
  · refine ⟨ls ++ [last], ?_, fun x hx => ?_, by rw [h2], fun x hx => by rw [h2]; exact hx, by rw [h2]; exact Nat.le_refl _⟩
    · unfold endedV
      have hne : ¬ (s = [] ∨ s.getLast? = some 10) := by
        rintro (h | h)
        · rw [h1] at h; simp [hl] at h
        · rw [h1, List.getLast?_append, List.getLast?_eq_some_getLast hl, Option.some_or] at h
          simp only [Option.some.injEq] at h
          exact h4 _ (List.getLast_mem hl) h
      rw [if_neg hne, h1]
      unfold textL
      rw [List.flatMap_append]
      simp
    · rcases List.mem_append.1 hx with hx | hx
      · exact h3 x hx
      · rw [List.mem_singleton] at hx; subst hx; exact h4
/-- a remark ahead of every line -/
def remT (r : List UInt8) (ls : List (List UInt8)) : List UInt8 := ls.flatMap fun x => [10, 35] ++ r ++ [10] ++ (x ++ [10])
def remL (r : List UInt8) (ls : List (List UInt8)) : List (List UInt8) := ls.flatMap fun x => [[], 35 :: r, x]
theorem remT_is (r : List UInt8) (ls : List (List UInt8)) : remT r ls = textL (remL r ls) := by
  unfold remT remL textL
  induction ls with
  | nil => rfl
  | cons x ls ih => rw [List.flatMap_cons, List.flatMap_cons, List.flatMap_append, ih]; simp
theorem remL_parse (r : List UInt8) (ls : List (List UInt8)) : parseG (remL r ls) = parseG ls := by
  unfold remL
  induction ls with
  | nil => rfl
  | cons x ls ih =>
    rw [List.flatMap_cons, List.cons_append, parseG, if_pos (.inl rfl), List.cons_append, parseG, if_pos (.inr rfl), List.cons_append, List.nil_append, parseG, parseG, ih]
theorem parseV_short (s : List UInt8) : Short (zax s).1 := by
  by_cases h : (zax s).2 = 0
  · exact parse_short (s := s) (l := (zax s).1) (by rw [← h])
  · have : (zax s).1 = [] := by
      unfold zax at h ⊢
      split
      · rfl
      · next hl =>
        rw [if_neg hl] at h
        cases hg : parseG (zaq s) with
        | none => rfl
        | some l => rw [hg] at h; exact absurd rfl h
    rw [this]
    exact ⟨by simp, fun c hc => by simp at hc⟩
end Go.Proofs.YtdmlgligljagoaaDoor

set_option linter.unusedVariables false
set_option linter.unusedSimpArgs false
namespace Go.Proofs.YtdmlgligljagoaaDoor
open Go.RowKit Go.Proofs.YtdmlgligljagoaaDoorW.PrintWords PS

abbrev F5 := cofferlaw22_ScriptLines.j5
theorem same_self (l : List S36) (h : Short l) : cofferref22_Same.f (l.map toldC) (l.map toldC) = some true := by
  rw [same_is _ _ (told_short h), decide_eq_true rfl]
theorem j5_ev (two E : List UInt8) (a : List S36) (ha : Short a) (hE : E.length ≤ 65536) (ht : two.length ≤ 65536) (x : Bool)
    (hb : x = false → zax (E ++ two) = (a ++ (zax two).1, 0)) :
    Ev (fun k => cofferlaw22_ScriptLines.j5 k (bs two) a (bs E) (zax two).1 x) true := by
  cases x with
  | true => exact Ev.step (f := fun _ => some true) (fun k => by rw [cofferlaw22_ScriptLines.j5, if_pos rfl]) (Ev.now _)
  | false =>
    have hp := parse_ev (E ++ two)
    rw [hb rfl] at hp
    have hab : Short (a ++ (zax two).1) := by have := parse_short (hb rfl); exact this
    have hs2 := parseV_short two
    refine Ev.step (f := fun k => (script_Parse.f k (bs (E ++ two))).bind fun p => if p.2 = 0 then ((cofferlaw22_told.f k p.1).bind fun t1 => ((cofferlaw22_told.f k a).bind fun t2 => ((cofferlaw22_told.f k (zax two).1).bind fun t3 => (if t2.length + t3.length < 879609302220 then ((cofferref22_Same.f t1 (t2 ++ t3)).bind fun t => (some t)) else none)))) else some false) (fun k => ?_) (Ev.bind hp ?_)
    · rw [cofferlaw22_ScriptLines.j5, if_neg (by simp), zat, zat, if_pos (by omega), bs_append]
    · refine Ev.congr (fun k => if_pos rfl) (Ev.bind (told_ev _ hab) (Ev.bind (told_ev _ ha) (Ev.bind (told_ev _ hs2) (Ev.congr (fun k => ?_) (Ev.now true)))))
      have h1 := ha.1
      have h2 := hs2.1
      rw [List.length_map, List.length_map, if_pos (by omega), ← List.map_append, same_self _ hab]
      rfl
theorem j4_ev (two E : List UInt8) (a : List S36) (e : Int) (ha : Short a) (hE : E.length ≤ 65536) (ht : two.length ≤ 65536)
    (hb : e = 0 → (zax two).2 = 0 → zax (E ++ two) = (a ++ (zax two).1, 0)) :
    Ev (fun k => cofferlaw22_ScriptLines.j4 k (bs two) a e (bs E) false) true := by
  have hp := parse_ev two
  refine Ev.step (f := fun k => (script_Parse.f k (bs two)).bind fun p => if e = 0 then cofferlaw22_ScriptLines.j5 k (bs two) a (bs E) p.1 (p.2 != 0) else cofferlaw22_ScriptLines.j5 k (bs two) a (bs E) p.1 true) (fun k => ?_) (Ev.bind hp ?_)
  · rw [cofferlaw22_ScriptLines.j4, if_neg (by simp)]
  · by_cases he : e = 0
    · refine Ev.congr (fun k => if_pos he) (j5_ev two E a ha hE ht _ (fun hx => hb he ?_))
      simpa using hx
    · exact Ev.congr (fun k => if_neg he) (j5_ev two E a ha hE ht true (fun hx => by cases hx))
/-- what comes behind the text with remarks -/
theorem l1_end (two E x : List UInt8) (a : List S36) (e : Int) (r : List UInt8) (fr : Int) (ha : Short a) (hE : E.length ≤ 65536) (ht : two.length ≤ 65536) (hx : zax x = (a, e))
    (hb : e = 0 → (zax two).2 = 0 → zax (E ++ two) = (a ++ (zax two).1, 0)) :
    Ev (fun k => cofferlaw22_ScriptLines.l1 k (bs two) (bs r) a e (bs x) fr (bs E) (E.length : Int)) true := by
  have hp := parse_ev x
  rw [hx] at hp
  refine Ev.step (f := fun k => (script_Parse.f k (bs x)).bind fun p => if p.2 = e then ((cofferlaw22_told.f k a).bind fun t1 => ((cofferlaw22_told.f k p.1).bind fun t2 => ((cofferref22_Same.f t1 t2).bind fun t => cofferlaw22_ScriptLines.j4 k (bs two) a e (bs E) (!t)))) else cofferlaw22_ScriptLines.j4 k (bs two) a e (bs E) true) (fun k => ?_) (Ev.bind hp ?_)
  · rw [cofferlaw22_ScriptLines.l1, zat, if_neg (by omega)]
  · refine Ev.congr (fun k => if_pos rfl) (Ev.bind (told_ev _ ha) (Ev.bind (told_ev _ ha) (Ev.congr (fun k => ?_) (j4_ev two E a e ha hE ht hb))))
    rw [same_self _ ha]
    rfl
theorem scan_go (two E : List UInt8) (a : List S36) (e : Int) (r acc : List UInt8) (fr : Int) (p : Nat) (ln post : List UInt8) (hE : E = E.take p ++ ln ++ 10 :: post) (hp : p + ln.length < E.length) (hn : No10 ln) (hL : E.length ≤ 65536)
    (hk : Ev (fun k => cofferlaw22_ScriptLines.l1 k (bs two) (bs r) a e (bs acc) fr (bs E) ((p + ln.length : Nat) : Int)) true) : ∀ d j, j + d = ln.length →
    Ev (fun k => cofferlaw22_ScriptLines.l1 k (bs two) (bs r) a e (bs acc) fr (bs E) ((p + j : Nat) : Int)) true := by
  intro d
  induction d with
  | zero => intro j hj; rw [show p + j = p + ln.length from by omega]; exact hk
  | succ d ih =>
    intro j hj
    have hjl : j < ln.length := by omega
    have hlt : p + j < E.length := by omega
    have hc : E[p + j]'hlt = ln[j]'hjl := by
      have hpl : (E.take p).length = p := by rw [List.length_take]; omega
      have : E[p + j]? = some (ln[j]'hjl) := by
        rw [hE, List.append_assoc, List.getElem?_append_right (by omega), hpl, List.getElem?_append_left (by omega), show p + j - p = j from by omega, List.getElem?_eq_getElem hjl]
      rw [List.getElem?_eq_getElem hlt] at this
      simpa using this
    have b0 := bt_bs E (p + j) hlt
    rw [hc] at b0
    have hne : ¬ ((ln[j]'hjl).toNat : Int) = 10 := fun h => hn _ (List.getElem_mem hjl) ((u8_10 _).1 h)
    refine Ev.step (fun k => ?_) (ih (j + 1) (by omega))
    rw [cofferlaw22_ScriptLines.l1, zat, if_pos (by omega), if_pos (by omega), b0, if_neg hne, w64s (by omega)]
    rfl
theorem l1_step (k : Nat) (x1 : ByteArray) (a : List S36) (e : Int) (acc E r : List UInt8) (p i : Nat) (hi : i < E.length) (h10 : bt (bs E) (i : Int) = ((10 : UInt8).toNat : Int)) (hp : p ≤ i + 1) (hE : E.length ≤ 65536) (hacc : acc.length ≤ 6553600) (hr : r.length ≤ 20) (t : List UInt8) (hts : t.length ≤ 65536) (ht : (bs E).extract p (i + 1) = bs t) :
    cofferlaw22_ScriptLines.l1 (k + 1) x1 (bs r) a e (bs acc) ((p : Nat) : Int) (bs E) ((i : Nat) : Int) = cofferlaw22_ScriptLines.l1 k x1 (bs r) a e (bs (acc ++ ([10, 35] ++ r ++ [10] ++ t))) ((i + 1 : Nat) : Int) (bs E) ((i + 1 : Nat) : Int) := by
  have hw : wrap64 ((i : Int) + 1) = ((i + 1 : Nat) : Int) := w64s (by omega)
  have h10' : bt (bs E) (i : Int) = 10 := h10
  have g0 : ((bs E).size : Int) = (E.length : Int) := by rw [zat]
  have g1 : (bs acc).size = acc.length := zat _
  have g2 : (bs r).size = r.length := zat _
  have g3 : ((bs acc ++ (⟨#[10, 35]⟩ : ByteArray)) : ByteArray).size = acc.length + 2 := by rw [ByteArray.size_append, g1]; rfl
  have g4 : ((bs acc ++ (⟨#[10, 35]⟩ : ByteArray)) ++ bs r : ByteArray).size = acc.length + 2 + r.length := by rw [ByteArray.size_append, g3, g2]
  have g5 : (((bs acc ++ (⟨#[10, 35]⟩ : ByteArray)) ++ bs r) ++ (⟨#[10]⟩ : ByteArray)).size = acc.length + 2 + r.length + 1 := by rw [ByteArray.size_append, g4]; rfl
  have g6 : (((bs acc ++ (⟨#[10, 35]⟩ : ByteArray)) ++ bs r) ++ (⟨#[10]⟩ : ByteArray)) ++ bs t = bs (acc ++ ([10, 35] ++ r ++ [10] ++ t)) := by
    rw [show (⟨#[10, 35]⟩ : ByteArray) = bs [10, 35] from rfl, show (⟨#[10]⟩ : ByteArray) = bs [10] from rfl, bs_append, bs_append, bs_append, bs_append]
    congr 1
    simp only [List.append_assoc]
  have g7 : (bs t).size = t.length := zat _
  have c1 : (i : Int) < ((bs E).size : Int) := by rw [g0]; omega
  have c2 : (0 : Int) ≤ (i : Int) := by omega
  have c3 : (bs acc).size + 2 ≤ 9223372036854775807 := by rw [g1]; omega
  have c4 : ((bs acc ++ (⟨#[10, 35]⟩ : ByteArray)) : ByteArray).size + (bs r).size ≤ 9223372036854775807 := by rw [g3, g2]; omega
  have c5 : ((bs acc ++ (⟨#[10, 35]⟩ : ByteArray)) ++ bs r : ByteArray).size + 1 ≤ 9223372036854775807 := by rw [g4]; omega
  have c6 : (0 : Int) ≤ (p : Int) := by omega
  have c7 : (p : Int) ≤ ((i + 1 : Nat) : Int) := by omega
  have c8 : ((i + 1 : Nat) : Int) ≤ ((bs E).size : Int) := by rw [g0]; omega
  have c9 : (((bs acc ++ (⟨#[10, 35]⟩ : ByteArray)) ++ bs r) ++ (⟨#[10]⟩ : ByteArray)).size + (bs t).size ≤ 9223372036854775807 := by rw [g5, g7]; omega
  rw [cofferlaw22_ScriptLines.l1, if_pos c1, if_pos c2, if_pos h10', if_pos c3, if_pos c4, if_pos c5, if_pos c6, hw, if_pos c7, if_pos c8, Int.toNat_natCast, Int.toNat_natCast, ht, if_pos c9, g6]
theorem l1_go (two E : List UInt8) (a : List S36) (e : Int) (r : List UInt8) (ha : Short a) (hE : E.length ≤ 65536) (ht : two.length ≤ 65536) (hr : r.length ≤ 20)
    (hb : e = 0 → (zax two).2 = 0 → zax (E ++ two) = (a ++ (zax two).1, 0)) : ∀ (ls : List (List UInt8)) (pre acc : List UInt8), E = pre ++ textL ls → (∀ x ∈ ls, No10 x) → acc.length ≤ 100 * pre.length → zax (acc ++ remT r ls) = (a, e) →
    Ev (fun k => cofferlaw22_ScriptLines.l1 k (bs two) (bs r) a e (bs acc) (pre.length : Int) (bs E) (pre.length : Int)) true
  | [], pre, acc, h1, h2, h3, h4 => by
    have hEp : E = pre := by rw [h1]; simp [textL]
    rw [show (pre.length : Int) = (E.length : Int) from by rw [hEp]]
    refine l1_end two E acc a e r _ ha hE ht ?_ hb
    rw [← h4]; simp [remT]
  | ln :: ls, pre, acc, h1, h2, h3, h4 => by
    have h1' : E = pre ++ ln ++ 10 :: textL ls := by rw [h1]; simp [textL]
    have hlen : E.length = pre.length + ln.length + 1 + (textL ls).length := by rw [h1']; simp; omega
    have htk : E.take pre.length = pre := by rw [h1', List.append_assoc, List.take_left]
    have hlt : pre.length + ln.length < E.length := by omega
    have hc : E[pre.length + ln.length]'hlt = 10 := by
      have : E[pre.length + ln.length]? = some 10 := by
        rw [h1', List.getElem?_append_right (by simp), List.length_append, Nat.sub_self]; rfl
      rw [List.getElem?_eq_getElem hlt] at this
      simpa using this
    have b0 := bt_bs E (pre.length + ln.length) hlt
    rw [hc] at b0
    have ih := l1_go two E a e r ha hE ht hr hb ls (pre ++ ln ++ [10]) (acc ++ ([10, 35] ++ r ++ [10] ++ (ln ++ [10]))) (by rw [h1']; simp) (fun x hx => h2 x (List.mem_cons_of_mem _ hx)) (by simp; omega) (by rw [← h4]; simp [remT])
    have hpl : (pre ++ ln ++ [10]).length = pre.length + ln.length + 1 := by simp; omega
    rw [hpl] at ih
    have hext : (bs E).extract pre.length (pre.length + ln.length + 1) = bs (ln ++ [10]) := by
      rw [bs_extract]
      congr 1
      rw [h1', List.append_assoc, List.drop_left, show pre.length + ln.length + 1 - pre.length = (ln ++ [10]).length from by simp; omega, show ln ++ 10 :: textL ls = (ln ++ [10]) ++ textL ls from by simp, List.take_left]
    have hts : (ln ++ [10]).length ≤ 65536 := by simp; omega
    have ih' : Ev (fun k => cofferlaw22_ScriptLines.l1 k (bs two) (bs r) a e (bs (acc ++ ([10, 35] ++ r ++ [10] ++ (ln ++ [10])))) ((pre.length + ln.length + 1 : Nat) : Int) (bs E) ((pre.length + ln.length + 1 : Nat) : Int)) true := ih
    have hk : Ev (fun k => cofferlaw22_ScriptLines.l1 k (bs two) (bs r) a e (bs acc) ((pre.length : Nat) : Int) (bs E) ((pre.length + ln.length : Nat) : Int)) true :=
      Ev.step (fun k => l1_step k (bs two) a e acc E r pre.length (pre.length + ln.length) hlt b0 (by omega) hE (by omega) hr _ hts hext) ih'
    exact scan_go two E a e r acc _ pre.length ln (textL ls) (by rw [htk]; exact h1') hlt (h2 ln List.mem_cons_self) hE hk ln.length 0 (by omega)
theorem rem_go (one two r : List UInt8) (hr : r.length ≤ 20) (hk : No10 r → Ev (fun k => cofferlaw22_ScriptLines.l0 k (bs one) (bs two) (bs r) (r.length : Int)) true) : ∀ d j, j + d = r.length → No10 (r.take j) → Ev (fun k => cofferlaw22_ScriptLines.l0 k (bs one) (bs two) (bs r) (j : Int)) true := by
  intro d
  induction d with
  | zero => intro j hj h; rw [show (j : Int) = (r.length : Int) from by omega]; exact hk (by rwa [show j = r.length from by omega, List.take_length] at h)
  | succ d ih =>
    intro j hj h
    have hlt : j < r.length := by omega
    have b0 := bt_bs r j hlt
    by_cases hc : r[j] = 10
    · refine Ev.step (f := fun _ => some true) (fun k => ?_) (Ev.now _)
      rw [cofferlaw22_ScriptLines.l0, zat, if_pos (by omega), if_pos (by omega), b0, if_pos ((u8_10 _).2 hc)]
    · refine Ev.step (fun k => ?_) (ih (j + 1) (by omega) ?_)
      · rw [cofferlaw22_ScriptLines.l0, zat, if_pos (by omega), if_pos (by omega), b0, if_neg (fun e => hc ((u8_10 _).1 e)), w64s (by omega)]
      · rw [List.take_succ_eq_append_getElem hlt]
        intro c hcm
        rcases List.mem_append.1 hcm with hcm | hcm
        · exact h c hcm
        · rw [List.mem_singleton] at hcm; subst hcm; exact hc
theorem textL_len (ls : List (List UInt8)) : ls.length ≤ (textL ls).length := by
  unfold textL
  induction ls with
  | nil => simp
  | cons x ls ih => rw [List.flatMap_cons, List.length_append, List.length_append, List.length_cons, List.length_cons, List.length_nil]; omega
theorem remT_len (r : List UInt8) (ls : List (List UInt8)) : (remT r ls).length = (textL ls).length + ls.length * (r.length + 3) := by
  unfold remT textL
  induction ls with
  | nil => simp
  | cons x ls ih =>
    rw [List.flatMap_cons, List.flatMap_cons, List.length_append, List.length_append, ih, List.length_cons, Nat.add_mul]
    simp only [List.length_append, List.length_cons, List.length_nil]
    omega
theorem rem_count (r : List UInt8) (ls : List (List UInt8)) : (ls.flatMap fun x => [[], 35 :: r, x]).length = 3 * ls.length := by
  induction ls with
  | nil => rfl
  | cons x ls ih => rw [List.flatMap_cons, List.length_append, ih, List.length_cons]; simp only [List.length_cons, List.length_nil]; omega
theorem lines_ev (one two r : List UInt8) (h1 : one.length ≤ 140737488355328) (h2 : two.length ≤ 140737488355328) (h3 : r.length ≤ 140737488355328) : Ev (fun k => cofferlaw22_ScriptLines.f k (bs one) (bs two) (bs r)) true := by
  have hj : Ev (fun k => cofferlaw22_ScriptLines.j0 k (bs one) (bs two) (bs r) true) true := Ev.step (f := fun _ => some true) (fun k => by rw [cofferlaw22_ScriptLines.j0, if_pos rfl]) (Ev.now _)
  unfold cofferlaw22_ScriptLines.f
  refine Ev.bind first_ev (Ev.congr (fun k => if_pos rfl) (Ev.bind (few_ev one h1) ?_))
  by_cases f1 : fewV one = true
  · refine Ev.congr (fun k => if_pos f1) (Ev.bind (few_ev two h2) ?_)
    by_cases f2 : fewV two = true
    · refine Ev.congr (fun k => if_pos f2) ?_
      by_cases h20 : r.length ≤ 20
      · rw [show decide (((bs r).size : Int) > 20) = false from decide_eq_false (by rw [zat]; omega)]
        refine Ev.step (f := fun k => cofferlaw22_ScriptLines.l0 k (bs one) (bs two) (bs r) ((0 : Nat) : Int)) (fun k => by rw [cofferlaw22_ScriptLines.j0, if_neg (by simp)]; rfl) (rem_go one two r h20 (fun hr10 => ?_) r.length 0 (by omega) (fun c hc => by simp at hc))
        obtain ⟨a1, a2, a3⟩ := few_spec f1
        obtain ⟨b1, b2, b3⟩ := few_spec f2
        obtain ⟨ls, e1, e2, e3, e4, e5⟩ := ended_lines one
        have hEl : (endedV one).length ≤ 25001 := by
          unfold endedV
          split
          · omega
          · rw [List.length_append, List.length_cons, List.length_nil]; omega
        have hsE : zaq (endedV one) = ls ++ [[]] := by
          have := split_textL ls [] e2
          rwa [List.append_nil, ← e1] at this
        have hl1 : longV one = false := not_long (by omega) (by omega) (fun x hx => by have := a3 x hx; omega)
        have hlE : longV (endedV one) = false := not_long (by omega) (by rw [hsE]; simp; omega) (fun x hx => by
          rw [hsE] at hx
          rcases List.mem_append.1 hx with hx | hx
          · have := a3 x (e4 x hx); omega
          · rw [List.mem_singleton] at hx; subst hx; simp)
        have hpE : zax (endedV one) = zax one := by rw [parse_of hlE, parse_of hl1, hsE, parseG_end, e3]
        have hrl : (remL r ls).length = 3 * ls.length := by
          unfold remL
          exact rem_count r ls
        have hsR : zaq (remT r ls) = remL r ls ++ [[]] := by
          have := split_textL (remL r ls) [] (fun x hx => by
            obtain ⟨y, hy, hx⟩ := List.mem_flatMap.1 hx
            simp only [List.mem_cons, List.not_mem_nil, or_false] at hx
            rcases hx with rfl | rfl | rfl
            · intro c hc; simp at hc
            · intro c hc
              rcases List.mem_cons.1 hc with rfl | hc
              · decide
              · exact hr10 c hc
            · exact e2 _ hy)
          rwa [List.append_nil, ← remT_is] at this
        have htl := textL_len ls
        have hrt := remT_len r ls
        have hmul : ls.length * (r.length + 3) ≤ 300 * 23 := Nat.mul_le_mul (by omega) (by omega)
        have hlR : longV (remT r ls) = false := not_long (by rw [hrt, ← e1]; omega) (by rw [hsR, List.length_append, hrl]; simp; omega) (fun x hx => by
          rw [hsR] at hx
          rcases List.mem_append.1 hx with hx | hx
          · obtain ⟨y, hy, hx⟩ := List.mem_flatMap.1 hx
            simp only [List.mem_cons, List.not_mem_nil, or_false] at hx
            rcases hx with rfl | rfl | rfl
            · simp
            · simp; omega
            · have := a3 _ (e4 _ hy); omega
          · rw [List.mem_singleton] at hx; subst hx; simp)
        have hpR : zax (remT r ls) = zax one := by rw [parse_of hlR, parse_of hl1, hsR, parseG_end, remL_parse, e3]
        have hboth : (zax one).2 = 0 → (zax two).2 = 0 → zax (endedV one ++ two) = ((zax one).1 ++ (zax two).1, 0) := by
          intro z1 z2
          have hl2 : longV two = false := not_long (by omega) (by omega) (fun x hx => by have := b3 x hx; omega)
          have hsB : zaq (endedV one ++ two) = ls ++ zaq two := by rw [e1]; exact split_textL ls two e2
          have hlB : longV (endedV one ++ two) = false := not_long (by rw [List.length_append]; omega) (by rw [hsB, List.length_append]; omega) (fun x hx => by
            rw [hsB] at hx
            rcases List.mem_append.1 hx with hx | hx
            · have := a3 x (e4 x hx); omega
            · have := b3 x hx; omega)
          rw [parse_of hl1, ← e3] at z1 ⊢
          rw [parse_of hl2] at z2 ⊢
          rw [parse_of hlB, hsB, parseG_app]
          cases g1 : parseG ls with
          | none => rw [g1] at z1; simp [parseR] at z1
          | some m1 =>
            cases g2 : parseG (zaq two) with
            | none => rw [g2] at z2; simp [parseR] at z2
            | some m2 => rfl
        have ha := parseV_short one
        have p1 := parse_ev one
        have p2 := parse_ev (endedV one)
        rw [hpE] at p2
        refine Ev.step (f := fun k => (script_Parse.f k (bs one)).bind fun p => (cofferlaw22_ended.f (bs one)).bind fun t => (script_Parse.f k t).bind fun q => if p.2 = q.2 then ((cofferlaw22_told.f k p.1).bind fun t1 => ((cofferlaw22_told.f k q.1).bind fun t2 => ((cofferref22_Same.f t1 t2).bind fun b => cofferlaw22_ScriptLines.j2 k (bs one) (bs two) (bs r) p.1 p.2 (!b)))) else cofferlaw22_ScriptLines.j2 k (bs one) (bs two) (bs r) p.1 p.2 true) (fun k => ?_) (Ev.bind p1 ?_)
        · rw [cofferlaw22_ScriptLines.l0, zat, if_neg (by omega)]
        · refine Ev.congr (f := fun k => (script_Parse.f k (bs (endedV one))).bind fun q => if (zax one).2 = q.2 then ((cofferlaw22_told.f k (zax one).1).bind fun t1 => ((cofferlaw22_told.f k q.1).bind fun t2 => ((cofferref22_Same.f t1 t2).bind fun b => cofferlaw22_ScriptLines.j2 k (bs one) (bs two) (bs r) (zax one).1 (zax one).2 (!b)))) else cofferlaw22_ScriptLines.j2 k (bs one) (bs two) (bs r) (zax one).1 (zax one).2 true) (fun k => ?_) (Ev.bind p2 ?_)
          · rw [ended_is one (by omega), Option.bind_some]
          · refine Ev.congr (fun k => if_pos rfl) (Ev.bind (told_ev _ ha) (Ev.bind (told_ev _ ha) (Ev.congr (f := fun k => cofferlaw22_ScriptLines.j2 k (bs one) (bs two) (bs r) (zax one).1 (zax one).2 false) (fun k => by rw [same_self _ ha, Option.bind_some]; rfl) ?_)))
            refine Ev.step (f := fun k => cofferlaw22_ScriptLines.l1 k (bs two) (bs r) (zax one).1 (zax one).2 (bs []) ((([] : List UInt8).length : Nat) : Int) (bs (endedV one)) ((([] : List UInt8).length : Nat) : Int)) (fun k => ?_) (l1_go two (endedV one) (zax one).1 (zax one).2 r ha (by omega) (by omega) h20 hboth ls [] [] (by rw [e1]; rfl) e2 (by simp) (by rw [List.nil_append]; exact hpR))
            show cofferlaw22_ScriptLines.j2 (k + 1) (bs one) (bs two) (bs r) (zax one).1 (zax one).2 false = _
            rw [cofferlaw22_ScriptLines.j2, if_neg (by simp), ended_is one (by omega), Option.bind_some]
            rfl
      · rw [show decide (((bs r).size : Int) > 20) = true from decide_eq_true (by rw [zat]; omega)]
        exact hj
    · exact Ev.congr (fun k => if_neg f2) hj
  · exact Ev.congr (fun k => if_neg f1) hj
theorem scriptLines_law (a b c : ByteArray) (ha : a.size ≤ 140737488355328) (hb : b.size ≤ 140737488355328) (hc : c.size ≤ 140737488355328) (w : World) (hT : Tab w) :
    Calls Tryd.prog 5 #[.string a, .string b, .string c] w fun e w' => e = .returned (.bool true) ∧ Below w.heap.size w w' := by
  obtain ⟨k, hk⟩ := Ev.rounds (lines_ev a.data.toList b.data.toList c.data.toList (by rw [← Lib.size_eq]; exact ha) (by rw [← Lib.size_eq]; exact hb) (by rw [← Lib.size_eq]; exact hc))
  rw [bs_self, bs_self, bs_self] at hk
  exact cofferlaw22_ScriptLines.calls k a b c true w hT hk
end Go.Proofs.YtdmlgligljagoaaDoor

set_option linter.unusedVariables false
set_option linter.unusedSimpArgs false
namespace Go.Proofs.YtdmlgligljagoaaDoor
open Go.ChangeShapes Go.WideShapes Go.ChangeAt Go.RowKit
theorem own : ownKnob Tryd.prog.godebug = none := by kernel_rfl
theorem laidOut : laidOutB Tryd.prog = true := by kernel_rfl
theorem trodAll_below {H : Type} {enc : TypeId × Value → H} {W W' : World} (hb : Below W.heap.size W W') : ∀ (ts : List TypeId) (vs : List Value) (ds : List (DataW H)) (ps : List MemPlace),
    (∀ t ∈ ts, Tryd.prog.readableRec t = true ∧ t < Tryd.prog.types.size) → DataW.TrodAll enc Tryd.prog W 0 (fun _ => true) true ts vs ds ps → (∀ x ∈ ps, x.block < W.heap.size) →
    DataW.TrodAll enc Tryd.prog W' 0 (fun b => decide (b < W.heap.size)) true ts vs ds ps
  | [], [], [], _, _, h, _ => h
  | t :: ts, v :: vs, d :: ds, ps, hr, ⟨p, q, h1, h2, e⟩, hlt => by
    subst e
    have ht := hr t List.mem_cons_self
    exact ⟨p, q, Below.trod laidOut ht.1 ht.2 h1 hb (fun x hx => hlt x (List.mem_append_left _ hx)), trodAll_below hb ts vs ds q (fun x hx => hr x (List.mem_cons_of_mem _ hx)) h2 (fun x hx => hlt x (List.mem_append_right _ hx)), rfl⟩
  | [], _ :: _, _, _, _, h, _ => h.elim
  | [], [], _ :: _, _, _, h, _ => h.elim
  | _ :: _, [], _, _, _, h, _ => h.elim
  | _ :: _, _ :: _, [], _, _, h, _ => h.elim
theorem law_post {H : Type} {enc : TypeId × Value → H} {s : ChangeSpec} {f : Func} {apart fresh handsOn : Bool} {W W' : World} {args : Array Value} {ds gs : List (DataW H)} {before : List MemPlace} {tb : TypeId}
    (hvars : s.vars = []) (hr : ∀ t ∈ f.params.toList, Tryd.prog.readableRec t = true ∧ t < Tryd.prog.types.size) (hres : f.resultTypes = #[tb]) (hbool : Tryd.prog.underlying tb = some .bool)
    (hfn : (s.fn H (ds ++ gs)).results = [.lit (.bool true)] ∧ (s.fn H (ds ++ gs)).args = ds ∧ (s.fn H (ds ++ gs)).vars = [])
    (hW : DataW.Whole enc Tryd.prog f.params.toList s.vars apart W args.toList ds gs before) (hb : Below W.heap.size W W') :
    s.post enc Tryd.prog f apart fresh handsOn false W args (.bool true) W' := by
  have hW' := hW
  have hlt := hW.lt
  obtain ⟨p, q, hA, hV, rfl, hfz, hnd⟩ := hW
  refine ⟨ds, gs, _, [], p, [], hW', ?_, ?_, ?_, hb.frame _, fun h => by cases h⟩
  · rw [hfn.1, hres]
    exact trodAll_mk1 (shut_bool hbool true)
  · rw [hfn.2.1]
    exact trodAll_below hb _ _ _ _ hr hA (fun x hx => hlt x (List.mem_append_left _ hx))
  · rw [hfn.2.2, hvars]
    rfl
theorem tab_of_vars {P : Program} {W : World} {name : String} {k : IntKind} {zs : List Int} {rest : List (String × DataW Unit)} {ps : List MemPlace} {g : Nat} {t e : TypeId} {n : Nat}
    (hg : P.globalNamed name = some g) (hty : (P.globals[g]?).map (·.type) = some t) (ht : P.underlying t = some (.array n e)) (he : P.underlying e = some (.int k)) (hce : P.cellsOf e = 1) (hct : P.cellsOf t = n)
    (h : DataW.LaidVars P W ((name, Lib.tabData k zs) :: rest) ps) : Lib.TabIs P W name k zs := by
  obtain ⟨g', t', cs, fuel, p, q, hg', ht', hvar, hd, _⟩ := h
  obtain rfl := Option.some.inj (hg.symm.trans hg')
  obtain rfl := Option.some.inj (hty.symm.trans ht')
  unfold Lib.TabIs
  rw [hvar, ← Lib.cells_of_tab ht he hce hct hd]
end Go.Proofs.YtdmlgligljagoaaDoor

namespace Go.Proofs.YtdmlgligljagoaaDoor.lawScriptLines
open Go.ChangeShapes Go.WideShapes Go.ChangeAt Go.RowKit
open Go.ChangeMaps (open_string shut_string)
set_option linter.unusedVariables false
set_option linter.unusedSimpArgs false
noncomputable def leafs : DataW Unit → List Value
  | .lit (.int k n) => [Value.int k n]
  | .agg l => l.map fun d => match d with
    | .lit (.int k n) => Value.int k n
    | _ => undef
  | _ => [undef]
noncomputable def toCells : DataW Unit → Array Value
  | .agg l => (l.flatMap leafs).toArray
  | _ => #[]
noncomputable def setTab (h : Array Obj) (x : String × DataW Unit) : Array Obj := h.modify ((Tryd.prog.globalNamed x.1).getD 0) fun o => match o with
  | .cells _ t frozen => .cells (toCells x.2) t frozen
  | o => o
noncomputable def laidWorld (os : Os) : World :=
  { World.holding Tryd.prog os ⟨#[], #[], []⟩ with heap := List.foldl setTab (World.holding Tryd.prog os ⟨#[], #[], []⟩).heap Rows.scriptLinesRow.laid }
theorem gTab : Tryd.prog.globalNamed "internal/strconv.uint64pow10" = some 0 := by kernel_rfl
theorem table {W : World} (h : laidMetH Tryd.prog Rows.scriptLinesRow.laid W) (hS : W.ShapedOpen Tryd.prog) : Tab W := by
  refine ⟨?_, cell_of_shapedOpen_int (zero := #[.int .i64 0]) (t := 3) hS (of_decide_eq_true (by kernel_rfl)) (by kernel_rfl) rfl (by kernel_rfl) (by kernel_rfl) Tryd.underlying3⟩
  obtain ⟨ps, h0, _⟩ := h
  obtain ⟨_, _, _, _, _, _, _, _, _, _, h1, _⟩ := h0
  obtain ⟨_, _, _, _, _, _, _, _, _, _, h2, _⟩ := h1
  exact tab_of_vars gTab (t := 123) (n := 20) (e := 110) (by kernel_rfl) Tryd.underlying123 Tryd.underlying110 (by kernel_rfl) (by kernel_rfl) h2

set_option maxRecDepth 100000 in
theorem contract (H : Type) (enc : TypeId × Value → H) (W : World) (base : Nat) (args : Array Value) (ds gs : List (DataW H)) (before : List MemPlace)
    (hval : ∀ (j : Nat) t v, Tryd.f5.params[j]? = some t → args[j]? = some v → Value.okWide Tryd.prog W .any base t v)
    (hW : DataW.Whole enc Tryd.prog Tryd.f5.params.toList Rows.scriptLinesSpec.vars false W args.toList ds gs before)
    (hz : (DataW.weightsEach Tryd.prog (Tryd.f5.params.toList ++ ([] : List TypeId)) (ds ++ gs)).all (· ≤ reachBytes) = true) (hL : laidMetH Tryd.prog Rows.scriptLinesRow.laid W) (hS : W.ShapedOpen Tryd.prog) :
    Calls Tryd.prog 5 args W fun e W' => ∃ v, e = .returned v ∧ Rows.scriptLinesSpec.post enc Tryd.prog Tryd.f5 false true false false W args v W' := by
  have hW' := hW
  obtain ⟨p, q, hA0, hV, rfl, hfz, hnd⟩ := hW
  have hA : DataW.TrodAll enc Tryd.prog W 0 (fun _ => true) true Tryd.f5.params.toList args.toList ds p := hA0
  rw [Tryd.params5] at hA hval hz
  obtain ⟨v0, vs0, d0, ds0, p0, q0, hargs, rfl, rfl, h0, r0⟩ := trodAll_cons hA
  obtain ⟨v1, vs1, d1, ds1, p1, q1, rfl, rfl, rfl, h1, r1⟩ := trodAll_cons r0
  obtain ⟨v2, vs2, d2, ds2, p2, q2, rfl, rfl, rfl, h2, r2⟩ := trodAll_cons r1
  obtain ⟨rfl, rfl, rfl⟩ := trodAll_nil r2
  obtain rfl : args = #[v0, v1, v2] := by cases args; simp_all
  obtain ⟨rfl, rfl⟩ := trodVars_none hV
  obtain ⟨a0, rfl, rfl, rfl, w0⟩ := open_string Tryd.underlying9 (hval 0 9 v0 rfl rfl) h0
  obtain ⟨a1, rfl, rfl, rfl, w1⟩ := open_string Tryd.underlying9 (hval 1 9 v1 rfl rfl) h1
  obtain ⟨a2, rfl, rfl, rfl, w2⟩ := open_string Tryd.underlying9 (hval 2 9 v2 rfl rfl) h2
  clear hA0
  have z0 : a0.size ≤ 140737488355328 := by have := sized_string hz (j := 0) rfl rfl; have e := Lib.size_eq a0; unfold reachBytes at this; omega
  have z1 : a1.size ≤ 140737488355328 := by have := sized_string hz (j := 1) rfl rfl; have e := Lib.size_eq a1; unfold reachBytes at this; omega
  have z2 : a2.size ≤ 140737488355328 := by have := sized_string hz (j := 2) rfl rfl; have e := Lib.size_eq a2; unfold reachBytes at this; omega
  have hc : Calls Tryd.prog 5 #[.string a0, .string a1, .string a2] W fun e W' => e = .returned (.bool true) ∧ Below W.heap.size W W' := scriptLines_law a0 a1 a2 z0 z1 z2 W (table hL hS)
  exact hc.mono fun e W' ⟨he, hb⟩ => ⟨_, he, law_post rfl (by rw [Tryd.params5]; decide +kernel) (tb := 4) (by kernel_rfl) Tryd.underlying4 ⟨rfl, rfl, rfl⟩ hW' hb⟩

set_option maxRecDepth 100000 in
theorem laid_met (os : Os) : laidMet Tryd.prog Rows.scriptLinesRow.laid ((laidWorld os).forCall (fun _ _ => 0) ⟨#[], #[.string ByteArray.empty, .string ByteArray.empty, .string ByteArray.empty], []⟩).memory :=
  laidMet_of_run' 8 (by kernel_rfl) (by kernel_rfl)
set_option maxRecDepth 100000 in
theorem reads (os : Os) {H : Type} (enc : TypeId × Value → H) : ∃ places, DataW.whole enc Tryd.prog ((laidWorld os).forCall (fun _ _ => 0) ⟨#[], #[.string ByteArray.empty, .string ByteArray.empty, .string ByteArray.empty], []⟩).memory Tryd.f5.params.toList Rows.scriptLinesSpec.vars false (#[.string ByteArray.empty, .string ByteArray.empty, .string ByteArray.empty] : Array Value).toList 8 = some ([.lit (.string []), .lit (.string []), .lit (.string [])], [], places) :=
  ⟨[], by kernel_rfl⟩
set_option maxRecDepth 100000 in
theorem lifted (os : Os) (started : os.Started) (H : Type) (enc : TypeId × Value → H) (F : Stop.Interp) :
    ReturnsInHanded {} Tryd.checked os 5 .any ((OpenSpec.ofChange Rows.scriptLinesSpec).preRow enc Tryd.prog Tryd.f5 Rows.scriptLinesRow.domain false Rows.scriptLinesRow.laid) (((OpenSpec.ofChange Rows.scriptLinesSpec).at F).post enc Tryd.prog Tryd.f5 false true false false) := by
  obtain ⟨places, hx⟩ := reads os enc
  refine returnsInHanded_of_row (C := Tryd.checked) (s := OpenSpec.ofChange Rows.scriptLinesSpec) own started (by kernel_rfl) Tryd.func5
    (witness_row_at (enc := enc) (C := Tryd.checked) false (laidWorld os) #[.string ByteArray.empty, .string ByteArray.empty, .string ByteArray.empty] rfl (by kernel_rfl) (by kernel_rfl) (by kernel_rfl)
      (OpenSpec.preRow_of_cond 8 hx (by kernel_rfl) (fun k hk => by cases hk) (by kernel_rfl) (laid_met os))) ?_
  intro W base args ds gs before hval hW _ _ hz hL hS _
  exact contract H enc W base args ds gs before hval hW hz hL hS
theorem said : Rows.ScriptLinesSaid :=
  OpenClaim.holds_of_cond 5 Tryd.f5 rfl rfl rfl rfl rfl rfl rfl ⟨rfl, rfl, rfl, rfl, rfl⟩ rfl rfl rfl rfl rfl (by kernel_rfl) Tryd.func5 (by kernel_rfl)
    (of_decide_eq_true (by kernel_rfl)) (by unfold Func.isWrapper; first | (rw [if_pos (by decide +kernel)]; kernel_rfl) | (rw [if_neg (by decide +kernel)]; exact ⟨rfl, rfl⟩))
    (fun os started H enc _ F => by rw [OpenClaim.pre_eq_preRow]; exact lifted os started H enc F)
theorem plain (f : FuncId) (fn : Func) (hf : Tryd.pinned.checked.prog.funcNamed "coffer/cofferlaw22.ScriptLines" = some f) (hfn : Tryd.pinned.checked.prog.funcs[f]? = some fn) :
    false = Tryd.pinned.checked.prog.looks [] ∧ ∀ (j : Nat) t, fn.params[j]? = some t → Tryd.pinned.checked.prog.wantsStandIn t = false := by
  obtain rfl : f = 5 := Option.some.inj ((show Tryd.prog.funcNamed "coffer/cofferlaw22.ScriptLines" = some 5 by kernel_rfl).symm.trans hf) |>.symm
  obtain rfl : fn = Tryd.f5 := (Option.some.inj (Tryd.func5.symm.trans hfn)).symm
  refine ⟨by kernel_rfl, fun j t ht => ?_⟩
  rw [Tryd.params5] at ht
  have hm := Array.mem_of_getElem? ht
  exact of_decide_eq_true ((show ([9, 9, 9] : List TypeId).all (fun t => decide (Tryd.prog.wantsStandIn t = false)) = true by kernel_rfl) |> fun h => List.all_eq_true.1 h t (by simpa using hm))
/-- THE CARD -/
theorem proved : Rows.ScriptLinesCardSaid :=
  Claim7.holds_tied_plain_at .later [] _ _ _ _ said (fun _ h => by cases h) (by kernel_rfl) (fun _ h => by cases h) scriptLines_row_tie rfl ⟨rfl, rfl⟩ (by kernel_rfl) rfl plain (by kernel_rfl)
end Go.Proofs.YtdmlgligljagoaaDoor.lawScriptLines
