/- Walks: a version's own parts: names.Version and cofferref15.well. -/
import Derived.Test.YtbhdehkdnenigaaDNamed
set_option linter.unusedVariables false
set_option linter.unusedSimpArgs false
namespace Go.Proofs.Ytbhdehkdnenigaa
open Go.RowKit Go.Proofs.YtbhdehkdnenigaaW.PrintWords
attribute [local go_sem] Vn.val

def keyE (s : ByteArray) : Int := if 1 ≤ s.size ∧ s.size ≤ 32 then 0 else 61
def dataE (s : ByteArray) : Int := if s.size ≤ 1024 then 0 else 63
theorem refKey2 (s : ByteArray) (w : World) (hs : s.size ≤ 9223372036854775807) : Calls Try.prog 42 #[.string s] w fun e w' => e = .returned (.int .i64 (keyE s)) ∧ w = w' := refKey_any s w hs
theorem refData2 (s : ByteArray) (w : World) (hs : s.size ≤ 9223372036854775807) : Calls Try.prog 43 #[.string s] w fun e w' => e = .returned (.int .i64 (dataE s)) ∧ w = w' := refData_any s w hs
set_option maxHeartbeats 400000 in
theorem key_any (s : ByteArray) (w : World) (hs : s.size ≤ 9223372036854775807) : Calls Try.prog 54 #[.string s] w fun e w' => e = .returned (.int .i64 (keyE s)) ∧ w = w' := by
  have hne := toList_isEmpty s
  by_cases h1 : 1 ≤ s.size
  · rw [decide_eq_true h1] at hne
    by_cases h2 : s.size ≤ 32
    · have HB : Hid (keyE s = 0) := if_pos ⟨h1, h2⟩
      have b2 : decide ((32 : Int) < (s.size : Int)) = false := by simp; omega
      go_enter Try.func54, Try.ntmps54
      go_wp2
      go_ret
      exact ⟨ret_int HB.out.symm, rfl⟩
    · have HB : Hid (keyE s = 61) := if_neg (fun h => h2 h.2)
      have b2 : decide ((32 : Int) < (s.size : Int)) = true := by simp; omega
      go_enter Try.func54, Try.ntmps54
      go_wp2
      go_ret
      exact ⟨ret_int HB.out.symm, rfl⟩
  · rw [decide_eq_false h1] at hne
    have HB : Hid (keyE s = 61) := if_neg (fun h => h1 h.1)
    go_enter Try.func54, Try.ntmps54
    go_wp2
    go_ret
    exact ⟨ret_int HB.out.symm, rfl⟩
set_option maxHeartbeats 400000 in
theorem data_any (s : ByteArray) (w : World) (hs : s.size ≤ 9223372036854775807) : Calls Try.prog 55 #[.string s] w fun e w' => e = .returned (.int .i64 (dataE s)) ∧ w = w' := by
  by_cases h2 : s.size ≤ 1024
  · have HB : Hid (dataE s = 0) := if_pos h2
    have b2 : decide ((1024 : Int) < (s.size : Int)) = false := by simp; omega
    go_enter Try.func55, Try.ntmps55
    go_wp2
    go_ret
    exact ⟨ret_int HB.out.symm, rfl⟩
  · have HB : Hid (dataE s = 63) := if_neg h2
    have b2 : decide ((1024 : Int) < (s.size : Int)) = true := by simp; omega
    go_enter Try.func55, Try.ntmps55
    go_wp2
    go_ret
    exact ⟨ret_int HB.out.symm, rfl⟩
def wel (x : Vn) : Bool := keyE x.key == 0 && dataE x.data == 0 && metaE x.pairs == 0 && (!x.gone || (x.data.toList.isEmpty && x.pairs.length == 0))
theorem keyE_or (s : ByteArray) : keyE s = 0 ∨ keyE s = 61 := by unfold keyE; split <;> simp
theorem dataE_or (s : ByteArray) : dataE s = 0 ∨ dataE s = 63 := by unfold dataE; split <;> simp
theorem metaE_or (l : List Pr) : metaE l = 0 ∨ metaE l = 62 := by unfold metaE; split <;> simp
set_option maxRecDepth 100000 in
set_option maxHeartbeats 2000000 in
theorem version_any (x : Vn) (A : Option Addr) (c : Nat) (w : World) (hC : kPr.C w A x.pairs.length x.pairs) (hl : x.pairs.length ≤ c) (HF : x.Fits) :
    Calls Try.prog 45 #[x.val A c] w fun e w' => ∃ r : Int, e = .returned (.int .i64 r) ∧ (r == 0) = wel x ∧ Below w.heap.size w w' := by
  have hc := HF.key
  have HK0 := fun w' => key_any x.key w' (Nat.le_trans HF.key (by decide))
  have HD0 := fun w' => data_any x.data w' (Nat.le_trans HF.data (by decide))
  have HM0 := fun w' (hb : Below w.heap.size w w') => meta_any x.pairs A c w' (Kd.C_below hC hb) hl (fun p hp => ⟨Nat.le_trans (HF.pairs p hp).1 (by decide), Nat.le_trans (HF.pairs p hp).2 (by decide)⟩)
  have hw : wel x = (keyE x.key == 0 && dataE x.data == 0 && metaE x.pairs == 0 && (!x.gone || (x.data.toList.isEmpty && x.pairs.length == 0))) := rfl
  have hkl := hl
  clear hC hl
  rcases keyE_or x.key with h1 | h1
  · rw [h1] at HK0
    have HK := fun w' => Lib.hid (HK0 w')
    rcases dataE_or x.data with h2 | h2
    · rw [h2] at HD0
      have HD := fun w' => Lib.hid (HD0 w')
      rcases metaE_or x.pairs with h3 | h3
      · rw [h3] at HM0
        have HM := fun w' h => Lib.hid (HM0 w' h)
        cases hg : x.gone with
        | false =>
          have HB : Hid (wel x = true) := by show _ = _; rw [hw]; simp [h1, h2, h3, hg]
          clear HK0 HD0 HM0 h1 h2 h3 hw
          go_enter Try.func45, Try.ntmps45
          go_wp2_with (first | (go_at_call 54; refine (HK _).out.mono ?_; rintro e w' ⟨rfl, rfl⟩) | (go_at_call 55; refine (HD _).out.mono ?_; rintro e w' ⟨rfl, rfl⟩) | (go_at_call 56; refine (HM _ (below1 _ _)).out.mono ?_; rintro e w' ⟨rfl, hb2⟩; have hx2 := box_cell hb2 (i := 2) rfl; have hx3 := box_cell hb2 (i := 3) rfl; have hx4 := box_cell hb2 (i := 4) rfl))
          go_ret
          exact ⟨0, rfl, by rw [HB.out]; simp, box_below hb2⟩
        | true =>
          cases he : x.data.toList.isEmpty with
          | false =>
            have HB : Hid (wel x = false) := by show _ = _; rw [hw, he, hg]; simp
            clear HK0 HD0 HM0 h1 h2 h3 hw
            go_enter Try.func45, Try.ntmps45
            go_wp2_with (first | (go_at_call 54; refine (HK _).out.mono ?_; rintro e w' ⟨rfl, rfl⟩) | (go_at_call 55; refine (HD _).out.mono ?_; rintro e w' ⟨rfl, rfl⟩) | (go_at_call 56; refine (HM _ (below1 _ _)).out.mono ?_; rintro e w' ⟨rfl, hb2⟩; have hx2 := box_cell hb2 (i := 2) rfl; have hx3 := box_cell hb2 (i := 3) rfl; have hx4 := box_cell hb2 (i := 4) rfl))
            go_ret
            exact ⟨_, rfl, by rw [HB.out]; simp, by first | exact box_below hb2 | exact below1 _ _⟩
          | true =>
            by_cases h4 : x.pairs.length = 0
            · have HB : Hid (wel x = true) := by show _ = _; rw [hw, h1, h2, h3, hg, he]; simp [h4]
              have b4 : ((x.pairs.length : Int) == 0) = true := by simp [h4]
              have b5 : decide (0 < x.pairs.length) = false := by simp [h4]
              have b6 : (x.pairs.length == 0) = true := by simp [h4]
              clear HK0 HD0 HM0 h1 h2 h3 hw h4
              go_enter Try.func45, Try.ntmps45
              go_wp2_with (first | (go_at_call 54; refine (HK _).out.mono ?_; rintro e w' ⟨rfl, rfl⟩) | (go_at_call 55; refine (HD _).out.mono ?_; rintro e w' ⟨rfl, rfl⟩) | (go_at_call 56; refine (HM _ (below1 _ _)).out.mono ?_; rintro e w' ⟨rfl, hb2⟩; have hx2 := box_cell hb2 (i := 2) rfl; have hx3 := box_cell hb2 (i := 3) rfl; have hx4 := box_cell hb2 (i := 4) rfl))
              go_ret
              exact ⟨0, rfl, by rw [HB.out]; simp, box_below hb2⟩
            · have HB : Hid (wel x = false) := by show _ = _; rw [hw]; simp [h1, h2, h3, hg, he, h4]
              have b4 : ((x.pairs.length : Int) == 0) = false := beq_eq_false_iff_ne.2 (by omega)
              have b5 : decide (0 < x.pairs.length) = true := decide_eq_true (by omega)
              have b6 : (x.pairs.length == 0) = false := beq_eq_false_iff_ne.2 h4
              clear HK0 HD0 HM0 h1 h2 h3 hw h4
              go_enter Try.func45, Try.ntmps45
              go_wp2_with (first | (go_at_call 54; refine (HK _).out.mono ?_; rintro e w' ⟨rfl, rfl⟩) | (go_at_call 55; refine (HD _).out.mono ?_; rintro e w' ⟨rfl, rfl⟩) | (go_at_call 56; refine (HM _ (below1 _ _)).out.mono ?_; rintro e w' ⟨rfl, hb2⟩; have hx2 := box_cell hb2 (i := 2) rfl; have hx3 := box_cell hb2 (i := 3) rfl; have hx4 := box_cell hb2 (i := 4) rfl))
              go_ret
              exact ⟨_, rfl, by rw [HB.out]; simp, by first | exact box_below hb2 | exact below1 _ _⟩
      · rw [h3] at HM0
        have HM := fun w' h => Lib.hid (HM0 w' h)
        have HB : Hid (wel x = false) := by show _ = _; rw [hw, h3]; simp
        clear HK0 HD0 HM0 h1 h2 h3 hw
        cases hg : x.gone with
        | false =>
          go_enter Try.func45, Try.ntmps45
          go_wp2_with (first | (go_at_call 54; refine (HK _).out.mono ?_; rintro e w' ⟨rfl, rfl⟩) | (go_at_call 55; refine (HD _).out.mono ?_; rintro e w' ⟨rfl, rfl⟩) | (go_at_call 56; refine (HM _ (below1 _ _)).out.mono ?_; rintro e w' ⟨rfl, hb2⟩; have hx2 := box_cell hb2 (i := 2) rfl; have hx3 := box_cell hb2 (i := 3) rfl; have hx4 := box_cell hb2 (i := 4) rfl))
          go_ret
          exact ⟨_, rfl, by rw [HB.out]; simp, by first | exact box_below hb2 | exact below1 _ _⟩
        | true =>
          cases he : x.data.toList.isEmpty with
          | false =>
            go_enter Try.func45, Try.ntmps45
            go_wp2_with (first | (go_at_call 54; refine (HK _).out.mono ?_; rintro e w' ⟨rfl, rfl⟩) | (go_at_call 55; refine (HD _).out.mono ?_; rintro e w' ⟨rfl, rfl⟩) | (go_at_call 56; refine (HM _ (below1 _ _)).out.mono ?_; rintro e w' ⟨rfl, hb2⟩; have hx2 := box_cell hb2 (i := 2) rfl; have hx3 := box_cell hb2 (i := 3) rfl; have hx4 := box_cell hb2 (i := 4) rfl))
            go_ret
            exact ⟨_, rfl, by rw [HB.out]; simp, by first | exact box_below hb2 | exact below1 _ _⟩
          | true =>
            go_enter Try.func45, Try.ntmps45
            go_wp2_with (first | (go_at_call 54; refine (HK _).out.mono ?_; rintro e w' ⟨rfl, rfl⟩) | (go_at_call 55; refine (HD _).out.mono ?_; rintro e w' ⟨rfl, rfl⟩) | (go_at_call 56; refine (HM _ (below1 _ _)).out.mono ?_; rintro e w' ⟨rfl, hb2⟩; have hx2 := box_cell hb2 (i := 2) rfl; have hx3 := box_cell hb2 (i := 3) rfl; have hx4 := box_cell hb2 (i := 4) rfl))
            go_ret
            exact ⟨_, rfl, by rw [HB.out]; simp, by first | exact box_below hb2 | exact below1 _ _⟩
    · rw [h2] at HD0
      have HD := fun w' => Lib.hid (HD0 w')
      have HB : Hid (wel x = false) := by show _ = _; rw [hw, h2]; simp
      clear HK0 HD0 HM0 h1 h2 hw
      go_enter Try.func45, Try.ntmps45
      go_wp2_with (first | (go_at_call 54; refine (HK _).out.mono ?_; rintro e w' ⟨rfl, rfl⟩) | (go_at_call 55; refine (HD _).out.mono ?_; rintro e w' ⟨rfl, rfl⟩) | (go_at_call 56; refine (HM _ (below1 _ _)).out.mono ?_; rintro e w' ⟨rfl, hb2⟩; have hx2 := box_cell hb2 (i := 2) rfl; have hx3 := box_cell hb2 (i := 3) rfl; have hx4 := box_cell hb2 (i := 4) rfl))
      go_ret
      exact ⟨_, rfl, by rw [HB.out]; simp, by first | exact box_below hb2 | exact below1 _ _⟩
  · rw [h1] at HK0
    have HK := fun w' => Lib.hid (HK0 w')
    have HB : Hid (wel x = false) := by show _ = _; rw [hw, h1]; simp
    clear HK0 HD0 HM0 h1 hw
    go_enter Try.func45, Try.ntmps45
    go_wp2_with (first | (go_at_call 54; refine (HK _).out.mono ?_; rintro e w' ⟨rfl, rfl⟩) | (go_at_call 55; refine (HD _).out.mono ?_; rintro e w' ⟨rfl, rfl⟩) | (go_at_call 56; refine (HM _ (below1 _ _)).out.mono ?_; rintro e w' ⟨rfl, hb2⟩; have hx2 := box_cell hb2 (i := 2) rfl; have hx3 := box_cell hb2 (i := 3) rfl; have hx4 := box_cell hb2 (i := 4) rfl))
    go_ret
    exact ⟨_, rfl, by rw [HB.out]; simp, by first | exact box_below hb2 | exact below1 _ _⟩
set_option maxRecDepth 100000 in
set_option maxHeartbeats 2000000 in
theorem well_any (x : Vn) (A : Option Addr) (c : Nat) (w : World) (hC : kPr.C w A x.pairs.length x.pairs) (hl : x.pairs.length ≤ c) (HF : x.Fits) :
    Calls Try.prog 30 #[x.val A c] w fun e w' => e = .returned (.bool (wel x)) ∧ Below w.heap.size w w' := by
  have hc := HF.key
  have HK0 := fun w' => refKey2 x.key w' (Nat.le_trans HF.key (by decide))
  have HD0 := fun w' => refData2 x.data w' (Nat.le_trans HF.data (by decide))
  have HM0 := fun w' (hb : Below w.heap.size w w') => refMeta_any x.pairs A c w' (Kd.C_below hC hb) hl (fun p hp => ⟨Nat.le_trans (HF.pairs p hp).1 (by decide), Nat.le_trans (HF.pairs p hp).2 (by decide)⟩)
  have hw : wel x = (keyE x.key == 0 && dataE x.data == 0 && metaE x.pairs == 0 && (!x.gone || (x.data.toList.isEmpty && x.pairs.length == 0))) := rfl
  have hkl := hl
  clear hC hl
  rcases keyE_or x.key with h1 | h1
  · rw [h1] at HK0
    have HK := fun w' => Lib.hid (HK0 w')
    rcases dataE_or x.data with h2 | h2
    · rw [h2] at HD0
      have HD := fun w' => Lib.hid (HD0 w')
      rcases metaE_or x.pairs with h3 | h3
      · rw [h3] at HM0
        have HM := fun w' h => Lib.hid (HM0 w' h)
        cases hg : x.gone with
        | false =>
          have HB : Hid (wel x = true) := by show _ = _; rw [hw]; simp [h1, h2, h3, hg]
          clear HK0 HD0 HM0 h1 h2 h3 hw
          go_enter Try.func30, Try.ntmps30
          go_wp2_with (first | (go_at_call 42; refine (HK _).out.mono ?_; rintro e w' ⟨rfl, rfl⟩) | (go_at_call 43; refine (HD _).out.mono ?_; rintro e w' ⟨rfl, rfl⟩) | (go_at_call 44; refine (HM _ (below1 _ _)).out.mono ?_; rintro e w' ⟨rfl, hb2⟩; have hx2 := box_cell hb2 (i := 2) rfl; have hx3 := box_cell hb2 (i := 3) rfl; have hx4 := box_cell hb2 (i := 4) rfl))
          go_ret
          exact ⟨ret_bool HB.out.symm, box_below hb2⟩
        | true =>
          cases he : x.data.toList.isEmpty with
          | false =>
            have HB : Hid (wel x = false) := by show _ = _; rw [hw, he, hg]; simp
            clear HK0 HD0 HM0 h1 h2 h3 hw
            go_enter Try.func30, Try.ntmps30
            go_wp2_with (first | (go_at_call 42; refine (HK _).out.mono ?_; rintro e w' ⟨rfl, rfl⟩) | (go_at_call 43; refine (HD _).out.mono ?_; rintro e w' ⟨rfl, rfl⟩) | (go_at_call 44; refine (HM _ (below1 _ _)).out.mono ?_; rintro e w' ⟨rfl, hb2⟩; have hx2 := box_cell hb2 (i := 2) rfl; have hx3 := box_cell hb2 (i := 3) rfl; have hx4 := box_cell hb2 (i := 4) rfl))
            go_ret
            exact ⟨ret_bool HB.out.symm, by first | exact box_below hb2 | exact below1 _ _⟩
          | true =>
            by_cases h4 : x.pairs.length = 0
            · have HB : Hid (wel x = true) := by show _ = _; rw [hw, h1, h2, h3, hg, he]; simp [h4]
              have b4 : ((x.pairs.length : Int) == 0) = true := by simp [h4]
              have b5 : decide (0 < x.pairs.length) = false := by simp [h4]
              have b6 : (x.pairs.length == 0) = true := by simp [h4]
              clear HK0 HD0 HM0 h1 h2 h3 hw h4
              go_enter Try.func30, Try.ntmps30
              go_wp2_with (first | (go_at_call 42; refine (HK _).out.mono ?_; rintro e w' ⟨rfl, rfl⟩) | (go_at_call 43; refine (HD _).out.mono ?_; rintro e w' ⟨rfl, rfl⟩) | (go_at_call 44; refine (HM _ (below1 _ _)).out.mono ?_; rintro e w' ⟨rfl, hb2⟩; have hx2 := box_cell hb2 (i := 2) rfl; have hx3 := box_cell hb2 (i := 3) rfl; have hx4 := box_cell hb2 (i := 4) rfl))
              go_ret
              exact ⟨ret_bool HB.out.symm, box_below hb2⟩
            · have HB : Hid (wel x = false) := by show _ = _; rw [hw]; simp [h1, h2, h3, hg, he, h4]
              have b4 : ((x.pairs.length : Int) == 0) = false := beq_eq_false_iff_ne.2 (by omega)
              have b5 : decide (0 < x.pairs.length) = true := decide_eq_true (by omega)
              have b6 : (x.pairs.length == 0) = false := beq_eq_false_iff_ne.2 h4
              clear HK0 HD0 HM0 h1 h2 h3 hw h4
              go_enter Try.func30, Try.ntmps30
              go_wp2_with (first | (go_at_call 42; refine (HK _).out.mono ?_; rintro e w' ⟨rfl, rfl⟩) | (go_at_call 43; refine (HD _).out.mono ?_; rintro e w' ⟨rfl, rfl⟩) | (go_at_call 44; refine (HM _ (below1 _ _)).out.mono ?_; rintro e w' ⟨rfl, hb2⟩; have hx2 := box_cell hb2 (i := 2) rfl; have hx3 := box_cell hb2 (i := 3) rfl; have hx4 := box_cell hb2 (i := 4) rfl))
              go_ret
              exact ⟨ret_bool HB.out.symm, by first | exact box_below hb2 | exact below1 _ _⟩
      · rw [h3] at HM0
        have HM := fun w' h => Lib.hid (HM0 w' h)
        have HB : Hid (wel x = false) := by show _ = _; rw [hw, h3]; simp
        clear HK0 HD0 HM0 h1 h2 h3 hw
        cases hg : x.gone with
        | false =>
          go_enter Try.func30, Try.ntmps30
          go_wp2_with (first | (go_at_call 42; refine (HK _).out.mono ?_; rintro e w' ⟨rfl, rfl⟩) | (go_at_call 43; refine (HD _).out.mono ?_; rintro e w' ⟨rfl, rfl⟩) | (go_at_call 44; refine (HM _ (below1 _ _)).out.mono ?_; rintro e w' ⟨rfl, hb2⟩; have hx2 := box_cell hb2 (i := 2) rfl; have hx3 := box_cell hb2 (i := 3) rfl; have hx4 := box_cell hb2 (i := 4) rfl))
          go_ret
          exact ⟨ret_bool HB.out.symm, by first | exact box_below hb2 | exact below1 _ _⟩
        | true =>
          cases he : x.data.toList.isEmpty with
          | false =>
            go_enter Try.func30, Try.ntmps30
            go_wp2_with (first | (go_at_call 42; refine (HK _).out.mono ?_; rintro e w' ⟨rfl, rfl⟩) | (go_at_call 43; refine (HD _).out.mono ?_; rintro e w' ⟨rfl, rfl⟩) | (go_at_call 44; refine (HM _ (below1 _ _)).out.mono ?_; rintro e w' ⟨rfl, hb2⟩; have hx2 := box_cell hb2 (i := 2) rfl; have hx3 := box_cell hb2 (i := 3) rfl; have hx4 := box_cell hb2 (i := 4) rfl))
            go_ret
            exact ⟨ret_bool HB.out.symm, by first | exact box_below hb2 | exact below1 _ _⟩
          | true =>
            go_enter Try.func30, Try.ntmps30
            go_wp2_with (first | (go_at_call 42; refine (HK _).out.mono ?_; rintro e w' ⟨rfl, rfl⟩) | (go_at_call 43; refine (HD _).out.mono ?_; rintro e w' ⟨rfl, rfl⟩) | (go_at_call 44; refine (HM _ (below1 _ _)).out.mono ?_; rintro e w' ⟨rfl, hb2⟩; have hx2 := box_cell hb2 (i := 2) rfl; have hx3 := box_cell hb2 (i := 3) rfl; have hx4 := box_cell hb2 (i := 4) rfl))
            go_ret
            exact ⟨ret_bool HB.out.symm, by first | exact box_below hb2 | exact below1 _ _⟩
    · rw [h2] at HD0
      have HD := fun w' => Lib.hid (HD0 w')
      have HB : Hid (wel x = false) := by show _ = _; rw [hw, h2]; simp
      clear HK0 HD0 HM0 h1 h2 hw
      go_enter Try.func30, Try.ntmps30
      go_wp2_with (first | (go_at_call 42; refine (HK _).out.mono ?_; rintro e w' ⟨rfl, rfl⟩) | (go_at_call 43; refine (HD _).out.mono ?_; rintro e w' ⟨rfl, rfl⟩) | (go_at_call 44; refine (HM _ (below1 _ _)).out.mono ?_; rintro e w' ⟨rfl, hb2⟩; have hx2 := box_cell hb2 (i := 2) rfl; have hx3 := box_cell hb2 (i := 3) rfl; have hx4 := box_cell hb2 (i := 4) rfl))
      go_ret
      exact ⟨ret_bool HB.out.symm, by first | exact box_below hb2 | exact below1 _ _⟩
  · rw [h1] at HK0
    have HK := fun w' => Lib.hid (HK0 w')
    have HB : Hid (wel x = false) := by show _ = _; rw [hw, h1]; simp
    clear HK0 HD0 HM0 h1 hw
    go_enter Try.func30, Try.ntmps30
    go_wp2_with (first | (go_at_call 42; refine (HK _).out.mono ?_; rintro e w' ⟨rfl, rfl⟩) | (go_at_call 43; refine (HD _).out.mono ?_; rintro e w' ⟨rfl, rfl⟩) | (go_at_call 44; refine (HM _ (below1 _ _)).out.mono ?_; rintro e w' ⟨rfl, hb2⟩; have hx2 := box_cell hb2 (i := 2) rfl; have hx3 := box_cell hb2 (i := 3) rfl; have hx4 := box_cell hb2 (i := 4) rfl))
    go_ret
    exact ⟨ret_bool HB.out.symm, by first | exact box_below hb2 | exact below1 _ _⟩
end Go.Proofs.Ytbhdehkdnenigaa
