/- Walk: pax.record: it returns what a record says, or panics with none. -/
import Derived.Test.YtbhdehkdnenigaaDoorPaxW5
set_option linter.unusedVariables false
set_option linter.unusedSimpArgs false
namespace Go.Proofs.YtbhdehkdnenigaaDoor
open Go.RowKit
attribute [local go_sem] bs_size bs_append bs_extract take_drop_len bs_toList

/-- what record comes to -/
def recEnd (r : Option (List UInt8 × List UInt8 × Nat)) : Ending := match r with
  | some (k, v, n) => .returned (.tuple #[.string (bs k), .string (bs v), .int .i64 n])
  | none => .panicked noneChain
theorem val_snoc (l : List UInt8) (c : UInt8) : Pax.val (l ++ [c]) = 10 * Pax.val l + (c.toNat - 48) := by simp [Pax.val]
theorem val_lt_go : ∀ (l : List UInt8) (a : Nat), l.all Pax.isDig = true → l.foldl (fun a c => 10 * a + (c.toNat - 48)) a < (a + 1) * 10 ^ l.length
  | [], a, _ => by simp
  | c :: l, a, h => by
    simp only [List.all_cons, Bool.and_eq_true, Pax.isDig, decide_eq_true_eq] at h
    have ih := val_lt_go l (10 * a + (c.toNat - 48)) h.2
    rw [List.foldl_cons, List.length_cons]
    refine Nat.lt_of_lt_of_le ih ?_
    rw [Nat.pow_succ, Nat.mul_comm (10 ^ l.length) 10, ← Nat.mul_assoc]
    exact Nat.mul_le_mul_right _ (by omega)
theorem val_lt (l : List UInt8) (h : l.all Pax.isDig = true) : Pax.val l < 10 ^ l.length := by
  have := val_lt_go l 0 h
  simpa [Pax.val] using this
theorem take_min8 (l : List UInt8) : l.take (min (l.length : Int) 8).toNat = l.take 8 := by
  rcases Nat.lt_or_ge l.length 8 with h | h
  · rw [List.take_of_length_le (by omega), List.take_of_length_le (by omega)]
  · rw [show (min (l.length : Int) 8).toNat = 8 from by omega]
attribute [local go_sem] take_min8
theorem readD_bad {l : List UInt8} {d k : Nat} (hk : k < d) (hd : d ≤ l.length) (h : Pax.isDig (l[k]'(by omega)) = false) : Pax.readD l d = none := by
  unfold Pax.readD
  rw [if_neg]
  rintro ⟨h1, _⟩
  rw [List.all_eq_true] at h1
  have h2 : l[k]'(by omega) ∈ l.take d := List.mem_take_iff_getElem.2 ⟨k, by omega, rfl⟩
  rw [h1 _ h2] at h
  cases h
set_option maxHeartbeats 1000000 in
theorem record_any (l : List UInt8) (w : World) (hs : l.length ≤ 1125899906842624) (htab : Lib.TabIs Tryd.prog w "internal/strconv.uint64pow10" .u64 Lib.pow10Tab) : Calls Tryd.prog 24 #[.string (bs l)] w fun e w' => e = recEnd (Pax.readProg l) ∧ Below w.heap.size w w' := by
  have HT := Lib.hid htab
  clear htab
  have hI := fun w' => Tryd.strings_IndexByte (bs (l.take 8)) 32 w'
  have hic := indexByte_cut 32 (l.take 8)
  simp only [bs_data, show ((32 : Int).toNat.toUInt8) = (32 : UInt8) from rfl] at hI
  cases hcut : Pax.cut1 32 (l.take 8) with
  | none =>
    rw [hcut] at hic
    simp only at hic
    rw [hic] at hI
    have HR : Hid (Pax.readProg l = none) := by simp [Hid, Pax.readProg, hcut]
    have HI := fun w' => Lib.hid (hI w')
    clear hI hic hcut
    go_enter Tryd.func24, Tryd.ntmps24
    go_wp2_with (first | (go_at_call 29; refine (HI _).out.mono ?_; rintro e w' ⟨rfl, rfl⟩) | (go_at_call 30; ((with_reducible refine (need_false _).mono ?_); rintro e w' ⟨rfl, rfl⟩)))
    rw [HR.out]
    exact ⟨rfl, rfl, Below.refl _ _⟩
  | some p =>
    obtain ⟨ds, rest⟩ := p
    rw [hcut] at hic
    simp only at hic
    obtain ⟨h1, h2, h3, h4⟩ := hic
    rw [h1] at hI
    have hR0 : Pax.readProg l = if ds.length = 0 then none else Pax.readD l ds.length := by rw [Pax.readProg, hcut]
    generalize ds.length = d at *
    have HI := fun w' => Lib.hid (hI w')
    rw [List.length_take] at h4
    clear hI hcut h1 h2 h3
    by_cases hd : d = 0
    · subst hd
      have HR : Hid (Pax.readProg l = none) := by rw [hR0]; rfl
      clear hR0
      go_enter Tryd.func24, Tryd.ntmps24
      go_wp2_with (first | (go_at_call 29; refine (HI _).out.mono ?_; rintro e w' ⟨rfl, rfl⟩) | (go_at_call 30; ((with_reducible refine (need_false _).mono ?_); rintro e w' ⟨rfl, rfl⟩)))
      rw [HR.out]
      exact ⟨rfl, rfl, Below.refl _ _⟩
    have HR : Hid (Pax.readProg l = Pax.readD l d) := by rw [hR0, if_neg hd]; rfl
    clear hR0
    have e1 : decide ((0 : Int) < (d : Int)) = true := by simp; omega
    have e2 : 0 < d := by omega
    go_enter Tryd.func24, Tryd.ntmps24
    go_wp2_with (first | (go_at_call 29; refine (HI _).out.mono ?_; rintro e w' ⟨rfl, rfl⟩) | (go_at_call 30; ((with_reducible refine (need_true _).mono ?_); rintro e w' ⟨rfl, rfl⟩)))
    go_loop [6, 23] (fun n i => ∃ k : Nat, k ≤ d ∧ i = .int .i64 k ∧ n = .int .i64 (Pax.val (l.take k) : Nat) ∧ Hid ((l.take k).all Pax.isDig = true)) (fun _ i => d - (intOf i).toNat)
    case atStart => exact ⟨0, Nat.zero_le _, rfl, rfl, by simp [Hid]⟩
    case round =>
      obtain ⟨k, hk, rfl, rfl, HK⟩ := hrel
      have hsz := bs_size l
      by_cases hlt : k < d
      · have hkl : k < l.length := by omega
        have hg := bs_get_bang l k hkl
        by_cases c1 : 48 ≤ l[k].toNat
        · have b3 : decide ((48 : Int) ≤ (((bs l)[k]'(by rw [bs_size]; exact hkl)).toNat : Int)) = true := by rw [hg]; simp; omega
          by_cases c2 : l[k].toNat ≤ 57
          · have b4 : decide ((((bs l)[k]'(by rw [bs_size]; exact hkl)).toNat : Int) ≤ 57) = true := by rw [hg]; simp; omega
            have HV : Hid (Pax.val (l.take (k + 1)) = 10 * Pax.val (l.take k) + (l[k].toNat - 48)) := by rw [List.take_succ_eq_append_getElem hkl, val_snoc]; rfl
            have HA : Hid ((l.take (k + 1)).all Pax.isDig = true) := by
              show _ = true
              rw [List.take_succ_eq_append_getElem hkl, List.all_append, HK.out]
              simp [Pax.isDig, c1, c2]
            have HG := Lib.hid hg
            have hv := val_lt _ HK.out
            have hp : 10 ^ (l.take k).length ≤ 10 ^ 8 := Nat.pow_le_pow_right (by omega) (by rw [List.length_take]; omega)
            have hvb : Pax.val (l.take k) < 100000000 := by omega
            clear hg hv hp
            go_wp2_with (go_at_call 30; ((with_reducible refine (need_true _).mono ?_); rintro e w' ⟨rfl, rfl⟩))
            go_round
            case rel => exact ⟨k + 1, by omega, by go_num, by rw [HV.out, HG.out]; go_num, HA⟩
            case measure => simp [intOf]; omega
          · have b4 : decide ((((bs l)[k]'(by rw [bs_size]; exact hkl)).toNat : Int) ≤ 57) = false := by rw [hg]; simp; omega
            have HRD : Hid (Pax.readProg l = none) := by show _ = _; rw [HR.out]; exact readD_bad hlt (by omega) (by simp [Pax.isDig]; omega)
            clear hg
            go_wp2_with (go_at_call 30; ((with_reducible refine (need_false _).mono ?_); rintro e w' ⟨rfl, rfl⟩))
            rw [HRD.out]
            exact ⟨rfl, rfl, Below.refl _ _⟩
        · have b3 : decide ((48 : Int) ≤ (((bs l)[k]'(by rw [bs_size]; exact hkl)).toNat : Int)) = false := by rw [hg]; simp; omega
          have HRD : Hid (Pax.readProg l = none) := by show _ = _; rw [HR.out]; exact readD_bad hlt (by omega) (by simp [Pax.isDig]; omega)
          clear hg
          go_wp2_with (go_at_call 30; ((with_reducible refine (need_false _).mono ?_); rintro e w' ⟨rfl, rfl⟩))
          rw [HRD.out]
          exact ⟨rfl, rfl, Below.refl _ _⟩
      · obtain rfl : k = d := by omega
        have hrd : Pax.readProg l = if k < Pax.val (l.take k) ∧ Pax.val (l.take k) ≤ l.length then Pax.readTail l (Pax.val (l.take k)) k else none := by
          rw [HR.out, Pax.readD, HK.out]; simp
        have hv := val_lt _ HK.out
        have hp : 10 ^ (l.take k).length ≤ 10 ^ 8 := Nat.pow_le_pow_right (by omega) (by rw [List.length_take]; omega)
        have hvb : Pax.val (l.take k) < 100000000 := by omega
        generalize Pax.val (l.take k) = n at *
        clear hv hp
        by_cases c1 : k < n
        · have f1 : decide ((k : Int) < (n : Int)) = true := by simp; omega
          by_cases c2 : n ≤ l.length
          · have f2 : decide ((n : Int) ≤ (l.length : Int)) = true := by simp; omega
            rw [if_pos ⟨c1, c2⟩] at hrd
            have HT2 : Hid (Pax.readProg l = match Pax.cut1 61 ((l.drop (k + 1)).take (n - (k + 1))) with
              | none => none
              | some (k, v) => if Lib.hasSuffix v [10] = true ∧ Pax.writeE k (v.take (v.length - 1)) = 0 ∧ Pax.write k (v.take (v.length - 1)) = l.take n then some (k, v.take (v.length - 1), n) else none) := hrd
            clear hrd
            have HCut := fun w' => Lib.hid (strCut_any ((l.drop (k + 1)).take (n - (k + 1))) w' (by simp; omega))
            cases hcut : Pax.cut1 61 ((l.drop (k + 1)).take (n - (k + 1))) with
            | none =>
              rw [hcut] at HCut
              have HRD : Hid (Pax.readProg l = none) := by show _ = _; rw [HT2.out, hcut]
              clear hcut
              go_wp2_with (first | (go_at_call 30; ((with_reducible refine (need_true _).mono ?_); rintro e w' ⟨rfl, rfl⟩)) | (go_at_call 30; ((with_reducible refine (need_false _).mono ?_); rintro e w' ⟨rfl, rfl⟩)) | (go_at_call 31; refine (HCut _).out.mono ?_; rintro e w' ⟨⟨q, rfl⟩, rfl⟩))
              rw [HRD.out]
              exact ⟨rfl, rfl, below_drewN (Below.refl _ _) _⟩
            | some p =>
              obtain ⟨ky, v⟩ := p
              have hkv := congrArg List.length (Pax.cut1_some hcut).1
              simp only [List.length_append, List.length_cons, List.length_take] at hkv
              rw [hcut] at HCut HT2
              clear hcut
              have hsuf := fun w' => Tryd.strings_HasSuffix (bs v) (bs [10]) w' (by rw [bs_size]; omega)
              simp only [bs_data] at hsuf
              cases hsf : Lib.hasSuffix v [10]
              · rw [hsf] at hsuf
                have HSuf := fun w' => Lib.hid (hsuf w')
                have HRD : Hid (Pax.readProg l = none) := by show _ = _; rw [HT2.out]; simp [hsf]
                clear hsuf hsf
                go_wp2_with (first | (go_at_call 30; ((with_reducible refine (need_true _).mono ?_); rintro e w' ⟨rfl, rfl⟩)) | (go_at_call 30; ((with_reducible refine (need_false _).mono ?_); rintro e w' ⟨rfl, rfl⟩)) | (go_at_call 31; refine (HCut _).out.mono ?_; rintro e w' ⟨⟨q, rfl⟩, rfl⟩) | (go_at_call 32; refine (HSuf _).out.mono ?_; rintro e w' ⟨rfl, rfl⟩))
                rw [HRD.out]
                exact ⟨rfl, rfl, below_drewN (Below.refl _ _) _⟩
              · rw [hsf] at hsuf
                have hv1 : 1 ≤ v.length := by
                  cases v with
                  | nil => simp [Lib.hasSuffix] at hsf
                  | cons _ _ => simp
                have HSuf := fun w' => Lib.hid (hsuf w')
                have HT3 : Hid (Pax.readProg l = if Pax.writeE ky (v.take (v.length - 1)) = 0 ∧ Pax.write ky (v.take (v.length - 1)) = l.take n then some (ky, v.take (v.length - 1), n) else none) := by show _ = _; rw [HT2.out]; simp [hsf]
                clear hsuf hsf HT2
                have HW := fun w' h => Lib.hid (paxWrite_any ky (v.take (v.length - 1)) w' (by omega) (by rw [List.length_take]; omega) h)
                by_cases c5 : Pax.writeE ky (v.take (v.length - 1)) = 0
                · have e6 : (Pax.writeE ky (v.take (v.length - 1)) == 0) = true := by simp [c5]
                  by_cases c6 : Pax.write ky (v.take (v.length - 1)) = l.take n
                  · have e7 : (Pax.write ky (v.take (v.length - 1)) == l.take n) = true := by simp [c6]
                    have HRD : Hid (Pax.readProg l = some (ky, v.take (v.length - 1), n)) := by show _ = _; rw [HT3.out]; simp [c5, c6]
                    clear c5
                    go_wp2_with (first | (go_at_call 30; ((with_reducible refine (need_true _).mono ?_); rintro e w' ⟨rfl, rfl⟩)) | (go_at_call 30; ((with_reducible refine (need_false _).mono ?_); rintro e w' ⟨rfl, rfl⟩)) | (go_at_call 31; refine (HCut _).out.mono ?_; rintro e w' ⟨⟨q, rfl⟩, rfl⟩) | (go_at_call 32; refine (HSuf _).out.mono ?_; rintro e w' ⟨rfl, rfl⟩) | (go_at_call 8; refine (HW _ (tab_below HT.out (below_drewN (Below.refl _ _) _))).out.mono ?_; rintro e w' ⟨rfl, hb1⟩))
                    go_ret3
                    rw [HRD.out]
                    exact ⟨rfl, (below_drewN (Below.refl _ _) _).trans hb1⟩
                  · have e7 : (Pax.write ky (v.take (v.length - 1)) == l.take n) = false := by simp [c6]
                    have HRD : Hid (Pax.readProg l = none) := by show _ = _; rw [HT3.out]; simp [c6]
                    clear c5
                    go_wp2_with (first | (go_at_call 30; ((with_reducible refine (need_true _).mono ?_); rintro e w' ⟨rfl, rfl⟩)) | (go_at_call 30; ((with_reducible refine (need_false _).mono ?_); rintro e w' ⟨rfl, rfl⟩)) | (go_at_call 31; refine (HCut _).out.mono ?_; rintro e w' ⟨⟨q, rfl⟩, rfl⟩) | (go_at_call 32; refine (HSuf _).out.mono ?_; rintro e w' ⟨rfl, rfl⟩) | (go_at_call 8; refine (HW _ (tab_below HT.out (below_drewN (Below.refl _ _) _))).out.mono ?_; rintro e w' ⟨rfl, hb1⟩))
                    rw [HRD.out]
                    exact ⟨rfl, rfl, (below_drewN (Below.refl _ _) _).trans hb1⟩
                · have e6 : (Pax.writeE ky (v.take (v.length - 1)) == 0) = false := by simp [c5]
                  have HRD : Hid (Pax.readProg l = none) := by show _ = _; rw [HT3.out]; simp [c5]
                  go_wp2_with (first | (go_at_call 30; ((with_reducible refine (need_true _).mono ?_); rintro e w' ⟨rfl, rfl⟩)) | (go_at_call 30; ((with_reducible refine (need_false _).mono ?_); rintro e w' ⟨rfl, rfl⟩)) | (go_at_call 31; refine (HCut _).out.mono ?_; rintro e w' ⟨⟨q, rfl⟩, rfl⟩) | (go_at_call 32; refine (HSuf _).out.mono ?_; rintro e w' ⟨rfl, rfl⟩) | (go_at_call 8; refine (HW _ (tab_below HT.out (below_drewN (Below.refl _ _) _))).out.mono ?_; rintro e w' ⟨rfl, hb1⟩))
                  rw [HRD.out]
                  exact ⟨rfl, rfl, (below_drewN (Below.refl _ _) _).trans hb1⟩
          · have f2 : decide ((n : Int) ≤ (l.length : Int)) = false := by simp; omega
            have HRD : Hid (Pax.readProg l = none) := by show _ = _; rw [hrd, if_neg (by omega)]
            clear hrd
            go_wp2_with (go_at_call 30; ((with_reducible refine (need_false _).mono ?_); rintro e w' ⟨rfl, rfl⟩))
            rw [HRD.out]
            exact ⟨rfl, rfl, Below.refl _ _⟩
        · have f1 : decide ((k : Int) < (n : Int)) = false := by simp; omega
          have HRD : Hid (Pax.readProg l = none) := by show _ = _; rw [hrd, if_neg (by omega)]
          clear hrd
          go_wp2_with (go_at_call 30; ((with_reducible refine (need_false _).mono ?_); rintro e w' ⟨rfl, rfl⟩))
          rw [HRD.out]
          exact ⟨rfl, rfl, Below.refl _ _⟩
end Go.Proofs.YtbhdehkdnenigaaDoor
