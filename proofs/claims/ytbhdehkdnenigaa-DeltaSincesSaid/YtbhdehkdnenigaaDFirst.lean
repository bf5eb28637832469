/- Walks: the law's example, and its first line: the document's examples in short: it answers true. -/
import Derived.Test.YtbhdehkdnenigaaDApply
import Derived.Test.YtbhdehkdnenigaaDLaw1
import Derived.Test.YtbhdehkdnenigaaDPg
set_option linter.unusedVariables false
set_option linter.unusedSimpArgs false
namespace Go.Proofs.Ytbhdehkdnenigaa
open Go.RowKit Go.Proofs.YtbhdehkdnenigaaW.PrintWords
attribute [local go_sem] Vn.val noDelta noBucket

def va1 : Vn := ⟨⟨#[97]⟩, 1, false, ⟨#[120]⟩, []⟩
def va4 : Vn := ⟨⟨#[97]⟩, 4, true, ⟨#[]⟩, []⟩
def vb2 : Vn := ⟨⟨#[98]⟩, 2, false, ⟨#[121]⟩, []⟩
def exL : List Vn := [va1, va4, vb2]
theorem example_any (w : World) : Calls Try.prog 27 #[] w fun e w' => ∃ A c, e = .returned (.agg #[.int .i64 5, .slice A 3 c]) ∧ 3 ≤ c ∧ kVn.C w' A 3 exL ∧ Below w.heap.size w w' := by
  refine (PD3.cofferlaw19_example.calls _ _ w rfl).mono ?_
  rintro e w' ⟨v, rfl, hv, hb⟩
  obtain ⟨A, c, rfl, hc, hC⟩ := Kd.S_reads hv
  exact ⟨A, c, rfl, hc, C_of48 hC, hb⟩
def flat (x : Vn) : List Value := [.string x.key, .int .i64 x.seq, .bool x.gone, .string x.data, .slice none 0 0]
theorem flat_K (w : World) (x : Vn) (h : x.pairs = []) : kVn.K w x (flat x) := by
  have := kVn_mk w x (A := none) (c := 0) (by rw [h]; exact Nat.le_refl _) (by rw [h]; exact ⟨rfl, by decide, fun h => absurd h (by decide)⟩)
  rw [h] at this
  exact this
theorem C_one (w : World) (b : Nat) (hb : b = w.heap.size) (x : Vn) (hx : x.pairs = []) : kVn.C (w.alloc (.cells #[.string x.key, .int .i64 x.seq, .bool x.gone, .string x.data, .slice none 0 0] 48)) (some ⟨b, 0, none⟩) 1 [x] := by
  subst hb
  refine ⟨rfl, by decide, fun _ => ⟨_, rfl, fun j p hj => ?_⟩⟩
  match j, hj with
  | 0, hj =>
    cases hj
    refine ⟨flat x, rfl, flat_K _ x hx, fun i u hu => ?_⟩
    match i, hu with
    | 0, hu => cases hu; simp [go_sem, add_plain, show kVn.sz = 5 from rfl]
    | 1, hu => cases hu; simp [go_sem, add_plain, show kVn.sz = 5 from rfl]
    | 2, hu => cases hu; simp [go_sem, add_plain, show kVn.sz = 5 from rfl]
    | 3, hu => cases hu; simp [go_sem, add_plain, show kVn.sz = 5 from rfl]
    | 4, hu => cases hu; simp [go_sem, add_plain, show kVn.sz = 5 from rfl]
theorem C_two (w : World) (b : Nat) (hb : b = w.heap.size) (x y : Vn) (hx : x.pairs = []) (hy : y.pairs = []) : kVn.C (w.alloc (.cells #[.string x.key, .int .i64 x.seq, .bool x.gone, .string x.data, .slice none 0 0, .string y.key, .int .i64 y.seq, .bool y.gone, .string y.data, .slice none 0 0] 48)) (some ⟨b, 0, none⟩) 2 [x, y] := by
  subst hb
  refine ⟨rfl, by decide, fun _ => ⟨_, rfl, fun j p hj => ?_⟩⟩
  match j, hj with
  | 0, hj =>
    cases hj
    refine ⟨flat x, rfl, flat_K _ x hx, fun i u hu => ?_⟩
    match i, hu with
    | 0, hu => cases hu; simp [go_sem, add_plain, show kVn.sz = 5 from rfl]
    | 1, hu => cases hu; simp [go_sem, add_plain, show kVn.sz = 5 from rfl]
    | 2, hu => cases hu; simp [go_sem, add_plain, show kVn.sz = 5 from rfl]
    | 3, hu => cases hu; simp [go_sem, add_plain, show kVn.sz = 5 from rfl]
    | 4, hu => cases hu; simp [go_sem, add_plain, show kVn.sz = 5 from rfl]
  | 1, hj =>
    cases hj
    refine ⟨flat y, rfl, flat_K _ y hy, fun i u hu => ?_⟩
    match i, hu with
    | 0, hu => cases hu; simp [go_sem, add_plain, show kVn.sz = 5 from rfl]
    | 1, hu => cases hu; simp [go_sem, add_plain, show kVn.sz = 5 from rfl]
    | 2, hu => cases hu; simp [go_sem, add_plain, show kVn.sz = 5 from rfl]
    | 3, hu => cases hu; simp [go_sem, add_plain, show kVn.sz = 5 from rfl]
    | 4, hu => cases hu; simp [go_sem, add_plain, show kVn.sz = 5 from rfl]
theorem fits_small (x : Vn) (h : x = va1 ∨ x = va4 ∨ x = vb2) : x.Fits ∧ x.pairs.length * 32 ≤ 140737488351232 := by
  rcases h with rfl | rfl | rfl
  all_goals exact ⟨⟨by decide, by decide, fun p hp => by cases hp⟩, by decide⟩
theorem room_of {l : List Vn} (h : l.length ≤ 3) (hm : ∀ x ∈ l, x = va1 ∨ x = va4 ∨ x = vb2) : Room l :=
  ⟨by omega, fun x hx => (fits_small x (hm x hx)).2, fun x hx => (fits_small x (hm x hx)).1⟩
theorem room_ex : Room exL := room_of (by decide) (fun x hx => by simpa [exL] using hx)
theorem room_u : Room [va1, vb2] := room_of (by decide) (fun x hx => by simp at hx; rcases hx with h | h <;> simp [h])
theorem room_d : Room [va4] := room_of (by decide) (fun x hx => by simp at hx; simp [hx])
theorem since_ex : since exL 3 = [va4] := by decide
theorem mrg_ex : mrg (since [va1, vb2] all64) (since [va4] all64) = exL := by
  have h1 : since [va1, vb2] all64 = [va1, vb2] := by decide
  have h2 : since [va4] all64 = [va4] := by decide
  rw [h1, h2, mrg, if_neg (of_decide_eq_false (show decide (ordE va4 va1 < 0) = false by kernel_rfl)), mrg, if_pos (of_decide_eq_true (show decide (ordE va4 vb2 < 0) = true by kernel_rfl)), mrg_end (.inr rfl)]
  rfl
theorem right_d : dRightV [va4] 5 3 = true := by kernel_rfl
theorem right_v : dRightV exL 5 6 = false := rfl
theorem since_ex3 (A : Option Addr) (c : Nat) (w : World) (hC : kVn.C w A 3 exL) (hc : 3 ≤ c) :
    Calls Try.prog 9 #[.agg #[.int .i64 5, .slice A 3 c], .int .i64 3] w fun e w' => ∃ B d, e = .returned (.tuple #[.agg #[.int .i64 3, .int .i64 5, .slice B 1 d], .int .i64 0]) ∧ 1 ≤ d ∧ kVn.C w' B 1 [va4] ∧ Below w.heap.size w w' := by
  refine (since_any exL 5 3 A c w hC hc room_ex (by decide) (by decide)).mono ?_
  rintro e w' ⟨v, rfl, hv, hb⟩
  rw [since_ex] at hv
  obtain ⟨B, d, rfl, hd, hD⟩ := Kd.R_reads hv
  exact ⟨B, d, rfl, hd, hD, hb⟩
theorem since_ex6 (A : Option Addr) (c : Nat) (w : World) :
    Calls Try.prog 9 #[.agg #[.int .i64 5, .slice A 3 c], .int .i64 6] w fun e w' => e = .returned (.tuple #[.agg #[.int .i64 0, .int .i64 0, .slice none 0 0], .int .i64 1]) ∧ Below w.heap.size w w' :=
  since_bad exL 5 6 A c w (.inr (by decide))
theorem apply_ex (A B : Option Addr) (c d : Nat) (w : World) (hC : kVn.C w A 2 [va1, vb2]) (hc : 2 ≤ c) (hD : kVn.C w B 1 [va4]) (hd : 1 ≤ d) :
    Calls Try.prog 16 #[.agg #[.int .i64 3, .slice A 2 c], .agg #[.int .i64 3, .int .i64 5, .slice B 1 d]] w fun e w' => ∃ G k, e = .returned (.tuple #[.agg #[.int .i64 5, .slice G 3 k], .int .i64 0]) ∧ 3 ≤ k ∧ kVn.C w' G 3 exL ∧ Below w.heap.size w w' := by
  refine (apply_any [va1, vb2] [va4] 3 3 5 A B c d w hC hc room_u hD hd room_d rfl (by decide) (of_decide_eq_true (by kernel_rfl))).mono ?_
  rintro e w' ⟨v, rfl, hv, hb⟩
  rw [mrg_ex] at hv
  obtain ⟨G, k, rfl, hk, hG⟩ := Kd.R_reads hv
  exact ⟨G, k, rfl, hk, hG, hb⟩
theorem apply_ex2 (A B : Option Addr) (c d : Nat) (w : World) :
    Calls Try.prog 16 #[.agg #[.int .i64 5, .slice A 3 c], .agg #[.int .i64 3, .int .i64 5, .slice B 1 d]] w fun e w' => e = .returned (.tuple #[.agg #[.int .i64 0, .slice none 0 0], .int .i64 91]) ∧ Below w.heap.size w w' :=
  apply_marker exL [va4] 5 3 5 A B c d w (by decide)
theorem same_d (A B : Option Addr) (c d : Nat) (w : World) (hC : kVn.C w A 1 [va4]) (hc : 1 ≤ c) (hD : kVn.C w B 1 [va4]) (hd : 1 ≤ d) :
    Calls Try.prog 13 #[.agg #[.int .i64 3, .int .i64 5, .slice A 1 c], .agg #[.int .i64 3, .int .i64 5, .slice B 1 d]] w fun e w' => e = .returned (.bool true) ∧ Below w.heap.size w w' := by
  refine (same19_any [va4] [va4] 3 5 3 5 A B c d w hC hD hc hd).mono ?_
  rintro e w' ⟨rfl, hb⟩
  exact ⟨by simp [sVns], hb⟩
theorem same_v (A B : Option Addr) (c d : Nat) (w : World) (hC : kVn.C w A 3 exL) (hc : 3 ≤ c) (hD : kVn.C w B 3 exL) (hd : 3 ≤ d) :
    Calls Try.prog 18 #[.agg #[.int .i64 5, .slice A 3 c], .agg #[.int .i64 5, .slice B 3 d]] w fun e w' => e = .returned (.bool true) ∧ Below w.heap.size w w' := by
  refine (same_any exL exL 5 5 A B c d w hC hD hc hd).mono ?_
  rintro e w' ⟨rfl, hb⟩
  exact ⟨by simp [sVns], hb⟩
theorem right_ex1 (A : Option Addr) (c : Nat) (w : World) (hC : kVn.C w A 1 [va4]) (hc : 1 ≤ c) :
    Calls Try.prog 15 #[.agg #[.int .i64 3, .int .i64 5, .slice A 1 c]] w fun e w' => e = .returned (.bool true) ∧ Below w.heap.size w w' := by
  refine (dRight_any [va4] 5 3 A c w hC hc room_d.fits).mono ?_
  rintro e w' ⟨rfl, hb⟩
  exact ⟨by rw [right_d], hb⟩
theorem right_ex2 (A : Option Addr) (c : Nat) (w : World) (hC : kVn.C w A 3 exL) (hc : 3 ≤ c) :
    Calls Try.prog 15 #[.agg #[.int .i64 6, .int .i64 5, .slice A 3 c]] w fun e w' => e = .returned (.bool false) ∧ Below w.heap.size w w' := by
  refine (dRight_any exL 5 6 A c w hC hc room_ex.fits).mono ?_
  rintro e w' ⟨rfl, hb⟩
  exact ⟨by rw [right_v], hb⟩
end Go.Proofs.Ytbhdehkdnenigaa
