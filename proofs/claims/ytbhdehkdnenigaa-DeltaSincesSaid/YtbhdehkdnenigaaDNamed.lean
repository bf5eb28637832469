/- Walks: names: sizes, metadata, a version's own parts. -/
import Derived.Test.YtbhdehkdnenigaaDMetas
set_option linter.unusedVariables false
set_option linter.unusedSimpArgs false
namespace Go.Proofs.Ytbhdehkdnenigaa
open Go.RowKit Go.Proofs.YtbhdehkdnenigaaW.PrintWords
attribute [local go_sem] Vn.val

set_option maxRecDepth 100000 in
set_option maxHeartbeats 400000 in
theorem size_any (x : Vn) (A : Option Addr) (c : Nat) (w : World) (hC : kPr.C w A x.pairs.length x.pairs) (hl : x.pairs.length ≤ c) (HF : x.Fits) :
    Calls Try.prog 48 #[x.val A c] w fun e w' => e = .returned (.int .i64 (wrap64 (vsize x))) ∧ Below w.heap.size w w' := by
  have HC := Lib.hid hC
  have hml := hC.2.1
  clear hC
  have hfk := HF.key
  have hfd := HF.data
  have HV : Hid (vsize x = 32 + x.key.size + x.data.size + psizes x.pairs) := rfl
  have hv := HV.out
  go_enter Try.func48, Try.ntmps48
  go_wp2
  go_loopw [3, 17] (fun n i wr => ∃ (k : Nat) (m : Int), k ≤ x.pairs.length ∧ i = .int .i64 k ∧ n = .int .i64 m ∧ Hid (m = wrap64 ((32 + x.key.size + x.data.size + psizes (x.pairs.take k) : Nat) : Int)) ∧ Below w.heap.size w wr) (fun _ i _ => x.pairs.length - (intOf i).toNat)
  case atStart => exact ⟨0, 32 + x.key.size + x.data.size, Nat.zero_le _, rfl, by go_num, w64_start _ _ hfk hfd, below1 _ _⟩
  case round =>
    obtain ⟨k, m, hk, rfl, rfl, HM, hb⟩ := hrel
    have HCw := Kd.C_below HC.out hb
    have hm := HM.out
    by_cases hlt : k < x.pairs.length
    · have hs := psizes_succ hlt
      have hfp := HF.pairs _ (List.getElem_mem hlt)
      obtain ⟨ad, rfl, h1, h2⟩ := kPr_at HCw k hlt
      have HS := Lib.hid hs
      generalize (x.pairs[k]'hlt).n = pn at *
      generalize (x.pairs[k]'hlt).v = pv at *
      have HM2 := Lib.hid hm
      clear hm hs HCw
      go_wp2
      go_roundw
      case rel => exact ⟨k + 1, wrap64 (m + (pn.size + pv.size)), by omega, by go_num, rfl, w64_one _ _ _ _ HM2.out (by rw [HS.out]; omega), hb.alloc hb.size _⟩
      case measure => simp [intOf]; omega
    · obtain rfl : k = x.pairs.length := by omega
      rw [List.take_length] at hm
      have HE : Hid (m = wrap64 (vsize x)) := by show _ = _; rw [hm, hv]
      clear hm hv HCw
      go_wp2
      go_ret
      exact ⟨ret_int (by rw [HE.out]), hb⟩

/-- the name ahead of position k: none ahead of the first -/
def ahd (l : List Pr) (k : Nat) : ByteArray := if k = 0 then ⟨#[]⟩ else (rdP l (k - 1)).n
theorem ahd_succ (l : List Pr) (k : Nat) : ahd l (k + 1) = (rdP l k).n := rfl
theorem sml_pos {s : ByteArray} {m : Int} (h : sml s m = true) : 1 ≤ s.size := by
  simp only [sml, Bool.and_eq_true, decide_eq_true_eq] at h
  exact h.1.2
theorem ahd_le {l : List Pr} {k : Nat} (h : sml (rdP l k).n 16 = true) : (Op.bytesLess (rdP l k).n.toList (ahd l k).toList || (rdP l k).n.toList == (ahd l k).toList) = !(k == 0 || Op.bytesLess (rdP l (k - 1)).n.toList (rdP l k).n.toList) := by
  rw [bl_le]
  by_cases h0 : k = 0
  · subst h0
    have h1 := sml_pos h
    have h2 := toList_isEmpty (rdP l 0).n
    rw [decide_eq_true h1] at h2
    have e : (ahd l 0).toList = [] := by rw [ahd, if_pos rfl, Lib.toList_data]
    rw [e]
    cases hl : (rdP l 0).n.toList with
    | nil => rw [hl] at h2; cases h2
    | cons a r => rfl
  · rw [ahd, if_neg h0, beq_eq_false_iff_ne.2 h0, Bool.false_or]
set_option maxRecDepth 100000 in
set_option maxHeartbeats 1000000 in
theorem meta_any (l : List Pr) (A : Option Addr) (c : Nat) (w : World) (hC : kPr.C w A l.length l) (hl : l.length ≤ c) (hs : ∀ p ∈ l, p.n.size ≤ 9223372036854775807 ∧ p.v.size ≤ 9223372036854775807) :
    Calls Try.prog 56 #[.slice A l.length c] w fun e w' => e = .returned (.int .i64 (metaE l)) ∧ Below w.heap.size w w' := by
  have HC := Lib.hid hC
  clear hC
  by_cases h8 : l.length ≤ 8
  · have b8 : decide ((8 : Int) < (l.length : Int)) = false := by simp; omega
    go_enter Try.func56, Try.ntmps56
    go_wp2
    go_loopw [3, 11] (fun s i wr => ∃ k : Nat, k ≤ l.length ∧ s = .string (ahd l k) ∧ i = .int .i64 k ∧ Hid (MgTo l k) ∧ Below w.heap.size w wr) (fun _ i _ => l.length - (intOf i).toNat)
    case atStart => exact ⟨0, Nat.zero_le _, rfl, rfl, fun i hi => absurd hi (Nat.not_lt_zero _), Below.refl _ _⟩
    case round =>
      obtain ⟨k, hk, rfl, rfl, HM, hb⟩ := hrel
      have HCw := Kd.C_below HC.out hb
      by_cases hlt : k < l.length
      · obtain ⟨ad, rfl, h1, h2⟩ := kPr_rd HCw k hlt
        have hsz := hs _ (List.getElem_mem hlt)
        rw [rdP_at hlt] at hsz
        have hsm := fun w' => small_any (rdP l k).n 16 w' hsz.1
        have hsv := hsz.2
        have hab := @ahd_le l k
        have hmg : mg l k = (sml (rdP l k).n 16 && decide ((rdP l k).v.size ≤ 64) && (k == 0 || Op.bytesLess (rdP l (k - 1)).n.toList (rdP l k).n.toList)) := rfl
        have hnx := ahd_succ l k
        generalize ahd l k = la at *
        generalize (k == 0 || Op.bytesLess (rdP l (k - 1)).n.toList (rdP l k).n.toList) = or1 at *
        have HNX := Lib.hid hnx
        clear hnx
        cases c1 : sml (rdP l k).n 16 with
        | false =>
          have HB := Lib.hid (metaE_bad (mok_bad hlt (by simp [hmg, c1])))
          rw [c1] at hsm
          have HS := fun w' => Lib.hid (hsm w')
          clear hsm HCw hsz hmg hab c1
          go_wp2_with (go_at_call 59; refine (HS _).out.mono ?_; rintro e w' ⟨rfl, hb2⟩; have hx0 := box_cell hb2 (i := 0) rfl; have hx1 := box_cell hb2 (i := 1) rfl)
          go_ret
          exact ⟨ret_int HB.out.symm, ((hb.alloc hb.size _).trans (hb2.mono (Nat.le_trans hb.size (by simp [go_sem]))))⟩
        | true =>
          rw [c1] at hsm
          have HS := fun w' => Lib.hid (hsm w')
          have hab := hab c1
          by_cases c2 : (rdP l k).v.size ≤ 64
          · have b2 : decide ((64 : Int) < ((rdP l k).v.size : Int)) = false := by simp; omega
            cases or1 with
            | true =>
              have HB : Hid (MgTo l (k + 1)) := HM.out.succ (by simp [hmg, c1, c2])
              clear hsm HCw hsz hmg c1
              simp only [Bool.not_true] at hab
              go_wp2_with (go_at_call 59; refine (HS _).out.mono ?_; rintro e w' ⟨rfl, hb2⟩; have hx0 := box_cell hb2 (i := 0) rfl; have hx1 := box_cell hb2 (i := 1) rfl)
              go_roundw
              case rel => exact ⟨k + 1, by omega, rfl, by go_num, HB.out, ((hb.alloc hb.size _).trans (hb2.mono (Nat.le_trans hb.size (by simp [go_sem]))))⟩
              case measure => simp [intOf]; omega
            | false =>
              have HB := Lib.hid (metaE_bad (mok_bad hlt (by simp [hmg])))
              clear hsm HCw hsz hmg c1
              simp only [Bool.not_false] at hab
              go_wp2_with (go_at_call 59; refine (HS _).out.mono ?_; rintro e w' ⟨rfl, hb2⟩; have hx0 := box_cell hb2 (i := 0) rfl; have hx1 := box_cell hb2 (i := 1) rfl)
              go_ret
              exact ⟨ret_int HB.out.symm, ((hb.alloc hb.size _).trans (hb2.mono (Nat.le_trans hb.size (by simp [go_sem]))))⟩
          · have b2 : decide ((64 : Int) < ((rdP l k).v.size : Int)) = true := by simp; omega
            have HB := Lib.hid (metaE_bad (mok_bad hlt (by simp [hmg, c2])))
            clear hsm HCw hsz hmg hab c1
            go_wp2_with (go_at_call 59; refine (HS _).out.mono ?_; rintro e w' ⟨rfl, hb2⟩; have hx0 := box_cell hb2 (i := 0) rfl; have hx1 := box_cell hb2 (i := 1) rfl)
            go_ret
            exact ⟨ret_int HB.out.symm, ((hb.alloc hb.size _).trans (hb2.mono (Nat.le_trans hb.size (by simp [go_sem]))))⟩
      · obtain rfl : k = l.length := by omega
        have HB := Lib.hid (metaE_ok (HM.out.ok h8))
        clear HCw
        go_wp2
        go_ret
        exact ⟨ret_int HB.out.symm, hb⟩
  · have b8 : decide ((8 : Int) < (l.length : Int)) = true := by simp; omega
    have HB := Lib.hid (metaE_bad (l := l) (by simp [mok, h8]))
    go_enter Try.func56, Try.ntmps56
    go_wp2
    go_ret
    exact ⟨ret_int HB.out.symm, Below.refl _ _⟩
end Go.Proofs.Ytbhdehkdnenigaa
