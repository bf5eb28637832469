/- The document's Right of a value: what the walk of the kit's print computes is the plain law. -/
import Derived.Test.YtbhdehkdnenigaaDPe
set_option linter.unusedVariables false
set_option linter.unusedSimpArgs false
namespace Go.Proofs.Ytbhdehkdnenigaa
open Go.RowKit Go.Proofs.YtbhdehkdnenigaaW.PrintWords PDeltaLaid

def apartTo (l : List Vn) (i k : Nat) : Bool := (List.range k).all fun j => (rdV l j).seq != (rdV l i).seq
def gd (l : List Vn) (nx : Int) (i : Nat) : Bool := wel (rdV l i) && decide (1 ≤ (rdV l i).seq) && decide ((rdV l i).seq < nx) && (i == 0 || va (rdV l (i - 1)) (rdV l i)) && apartTo l i i
def gds (l : List Vn) (nx : Int) : Bool := (List.range l.length).all (gd l nx)
def rightV (l : List Vn) (nx : Int) : Bool := decide (1 ≤ nx) && decide (nx ≤ 1099511627777) && decide (l.length ≤ 256) && gds l nx && decide (wrap64 (bsize l) ≤ 65536)
def apF (l : List Vn) (i j : Nat) : Bool := (List.range' j (i - j)).all fun k => (rdV l k).seq != (rdV l i).seq
def gdsF (l : List Vn) (nx : Int) (i : Nat) : Bool := (List.range' i (l.length - i)).all (gd l nx)
theorem apF_zero (l : List Vn) (i : Nat) : apF l i 0 = apartTo l i i := by simp [apF, apartTo, List.range_eq_range']
theorem gdsF_zero (l : List Vn) (nx : Int) : gdsF l nx 0 = gds l nx := by simp [gdsF, gds, List.range_eq_range']
theorem apF_end (l : List Vn) (i : Nat) : apF l i i = true := by simp [apF]
theorem gdsF_end (l : List Vn) (nx : Int) : gdsF l nx l.length = true := by simp [gdsF]
theorem apF_step {l : List Vn} {i j : Nat} (h : j < i) : apF l i j = ((rdV l j).seq != (rdV l i).seq && apF l i (j + 1)) := by
  unfold apF
  rw [show i - j = (i - (j + 1)) + 1 by omega, List.range'_succ, List.all_cons]
theorem gdsF_step {l : List Vn} {nx : Int} {i : Nat} (h : i < l.length) : gdsF l nx i = (gd l nx i && gdsF l nx (i + 1)) := by
  unfold gdsF
  rw [show l.length - i = (l.length - (i + 1)) + 1 by omega, List.range'_succ, List.all_cons]
theorem rd48 {l : List Vn} {i : Nat} (h : i < l.length) : rd_T48 (l.map to48) (i : Int) = to48 (rdV l i) := by
  simp [rd_T48, rdV, List.getD_eq_getElem?_getD, h]
theorem well48 (k : Nat) (x : Vn) (h : x.Fits) : cofferref15_well.f k (to48 x).f0 (to48 x).f1 (to48 x).f2 (to48 x).f3 (to48 x).f4 = some (wel x) := by
  have e : of48 ⟨(to48 x).f0, (to48 x).f1, (to48 x).f2, (to48 x).f3, (to48 x).f4⟩ = x := of_to48 x
  unfold cofferref15_well.f
  rw [e, if_pos ((fitsB_iff x).2 h)]
theorem ahead48 (x y : Vn) : cofferref15_ahead.f (to48 x).f0 (to48 x).f1 (to48 x).f2 (to48 x).f3 (to48 x).f4 (to48 y).f0 (to48 y).f1 (to48 y).f2 (to48 y).f3 (to48 y).f4 = some (va x y) := by
  have e : of48 ⟨(to48 x).f0, (to48 x).f1, (to48 x).f2, (to48 x).f3, (to48 x).f4⟩ = x := of_to48 x
  have e2 : of48 ⟨(to48 y).f0, (to48 y).f1, (to48 y).f2, (to48 y).f3, (to48 y).f4⟩ = y := of_to48 y
  unfold cofferref15_ahead.f
  rw [e, e2]
theorem bytes48 (k : Nat) (nx : Int) (l : List Vn) (h : ∀ x ∈ l, x.Fits) : cofferref15_Bytes.f k nx (l.map to48) = some (wrap64 (bsize l)) := by
  unfold cofferref15_Bytes.f
  rw [of_to48s, if_pos (List.all_eq_true.2 (fun x hx => (fitsB_iff x).2 (h x hx)))]
theorem w64_nat {n : Nat} (h : n ≤ 9223372036854775807) : wrap64 (n : Int) = n := by unfold wrap64; omega
theorem l1_ev (l : List Vn) (nx : Int) (i : Nat) (hi : i < l.length) (hl : l.length ≤ 9223372036854775807) (r : Bool) (hr : ∃ k, cofferref15_Right.l0 k ((i + 1 : Nat) : Int) nx (l.map to48) = some r) :
    ∀ d j, j + d = i → ∃ k, cofferref15_Right.l1 k i j nx (l.map to48) (to48 (rdV l i)).f0 (to48 (rdV l i)).f1 (to48 (rdV l i)).f2 (to48 (rdV l i)).f3 (to48 (rdV l i)).f4 = some (apF l i j && r) := by
  intro d
  induction d with
  | zero =>
    intro j hj
    obtain rfl : j = i := by omega
    obtain ⟨k, hk⟩ := hr
    refine ⟨k + 1, ?_⟩
    rw [cofferref15_Right.l1, if_neg (by omega), show ((j : Int) + 1) = ((j + 1 : Nat) : Int) by omega, w64_nat (by omega), hk, apF_end, Bool.true_and]
  | succ d ih =>
    intro j hj
    obtain ⟨k, hk⟩ := ih (j + 1) (by omega)
    by_cases he : (rdV l j).seq = (rdV l i).seq
    · refine ⟨1, ?_⟩
      rw [cofferref15_Right.l1, if_pos (by omega), if_pos (by omega), if_pos (by simp; omega), rd48 (by omega), if_pos (by exact he), apF_step (l := l) (i := i) (j := j) (by omega), he]
      simp
    · refine ⟨k + 1, ?_⟩
      rw [cofferref15_Right.l1, if_pos (by omega), if_pos (by omega), if_pos (by simp; omega), rd48 (by omega), if_neg (by exact he), show ((j : Int) + 1) = ((j + 1 : Nat) : Int) by omega, w64_nat (by omega), hk, apF_step (l := l) (i := i) (j := j) (by omega)]
      rw [show ((rdV l j).seq != (rdV l i).seq) = true by simpa using he, Bool.true_and]
theorem l0_ev (l : List Vn) (nx : Int) (hF : ∀ x ∈ l, x.Fits) (hl : l.length ≤ 9223372036854775807) :
    ∀ d i, i + d = l.length → ∃ k, cofferref15_Right.l0 k (i : Int) nx (l.map to48) = some (gdsF l nx i && decide (wrap64 (bsize l) ≤ 65536)) := by
  intro d
  induction d with
  | zero =>
    intro i hi
    obtain rfl : i = l.length := by omega
    refine ⟨1, ?_⟩
    rw [cofferref15_Right.l0, if_neg (by simp), bytes48 _ _ _ hF, gdsF_end, Option.bind_some, Bool.true_and]
  | succ d ih =>
    intro i hi
    have hlt : i < l.length := by omega
    have hX := hF _ (rdV_mem hlt)
    have hgd : gd l nx i = (wel (rdV l i) && decide (1 ≤ (rdV l i).seq) && decide ((rdV l i).seq < nx) && (i == 0 || va (rdV l (i - 1)) (rdV l i)) && apartTo l i i) := rfl
    obtain ⟨k1, h1⟩ := l1_ev l nx i hlt hl _ (ih (i + 1) (by omega)) i 0 (by omega)
    rw [apF_zero, show ((0 : Nat) : Int) = 0 from rfl] at h1
    have bad : ∀ k, cofferref15_Right.j2 (k + 1) i true nx (l.map to48) (to48 (rdV l i)).f0 (to48 (rdV l i)).f1 (to48 (rdV l i)).f2 (to48 (rdV l i)).f3 (to48 (rdV l i)).f4 = some false := fun k => by rw [cofferref15_Right.j2, if_pos rfl]
    have good : cofferref15_Right.j2 (k1 + 1) i false nx (l.map to48) (to48 (rdV l i)).f0 (to48 (rdV l i)).f1 (to48 (rdV l i)).f2 (to48 (rdV l i)).f3 (to48 (rdV l i)).f4 = some (apartTo l i i && (gdsF l nx (i + 1) && decide (wrap64 (bsize l) ≤ 65536))) := by rw [cofferref15_Right.j2, if_neg (by simp)]; exact h1
    refine ⟨k1 + 1 + 1, ?_⟩
    rw [cofferref15_Right.l0, if_pos (by simp; omega), if_pos (by omega), rd48 hlt, well48 _ _ hX, Option.bind_some, gdsF_step hlt, hgd]
    cases c1 : wel (rdV l i) with
    | false => rw [if_neg (by simp), bad]; simp
    | true =>
      rw [if_pos rfl]
      by_cases c2 : (to48 (rdV l i)).f1 < 1
      · rw [if_pos c2, bad]
        have : decide (1 ≤ (rdV l i).seq) = false := decide_eq_false (by have : (rdV l i).seq < 1 := c2; omega)
        rw [this]; simp
      · rw [if_neg c2]
        have e2 : decide (1 ≤ (rdV l i).seq) = true := decide_eq_true (by have : ¬ (rdV l i).seq < 1 := c2; omega)
        by_cases c3 : (to48 (rdV l i)).f1 ≥ nx
        · rw [if_pos c3, bad]
          have : decide ((rdV l i).seq < nx) = false := decide_eq_false (by have : (rdV l i).seq ≥ nx := c3; omega)
          rw [this]; simp
        · rw [if_neg c3]
          have e3 : decide ((rdV l i).seq < nx) = true := decide_eq_true (by have : ¬ (rdV l i).seq ≥ nx := c3; omega)
          rw [e2, e3]
          by_cases c4 : i = 0
          · subst c4
            rw [if_neg (by simp), good]
            simp [Bool.and_assoc]
          · rw [if_pos (by omega), show ((i : Int) - 1) = ((i - 1 : Nat) : Int) by omega, w64_nat (by omega), if_pos (by omega), if_pos (by simp; omega), rd48 (by omega), ahead48, Option.bind_some]
            have e4 : (i == 0) = false := by simpa using c4
            rw [e4]
            cases c5 : va (rdV l (i - 1)) (rdV l i) with
            | false => rw [Bool.not_false, bad]; simp
            | true => rw [Bool.not_true, good]; simp [Bool.and_assoc]
theorem right_ev (l : List Vn) (nx : Int) (hF : ∀ x ∈ l, x.Fits) (hl : l.length ≤ 9223372036854775807) : ∃ k, cofferref15_Right.f k nx (l.map to48) = some (rightV l nx) := by
  obtain ⟨k, hk⟩ := l0_ev l nx hF hl l.length 0 (by omega)
  rw [gdsF_zero] at hk
  refine ⟨k + 1, ?_⟩
  unfold cofferref15_Right.f rightV
  rw [List.length_map]
  by_cases c1 : nx < 1
  · rw [if_pos c1, cofferref15_Right.j0, if_pos rfl, decide_eq_false (show ¬ 1 ≤ nx by omega)]; rfl
  · rw [if_neg c1, decide_eq_true (show 1 ≤ nx by omega)]
    by_cases c2 : nx > 1099511627777
    · rw [if_pos c2, cofferref15_Right.j0, if_pos rfl, decide_eq_false (show ¬ nx ≤ 1099511627777 by omega)]; rfl
    · rw [if_neg c2, decide_eq_true (show nx ≤ 1099511627777 by omega), cofferref15_Right.j0]
      by_cases c3 : l.length ≤ 256
      · rw [if_neg (by simp; omega), decide_eq_true c3]
        simpa using hk
      · rw [if_pos (by simp; omega), decide_eq_false c3]; rfl
theorem refRight_any (l : List Vn) (nx : Int) (A : Option Addr) (c : Nat) (w : World) (hC : kVn.C w A l.length l) (hl : l.length ≤ c) (HF : ∀ x ∈ l, x.Fits) :
    Calls Try.prog 12 #[.agg #[.int .i64 nx, .slice A l.length c]] w fun e w' => e = .returned (.bool (rightV l nx)) ∧ Below w.heap.size w w' := by
  obtain ⟨k, hk⟩ := right_ev l nx HF hC.2.1
  have := cofferref15_Right.calls k nx A c (l.map to48) (rightV l nx) w (by simpa using C_to48 hC) (by simpa using hl) hk
  simpa using this
end Go.Proofs.Ytbhdehkdnenigaa
