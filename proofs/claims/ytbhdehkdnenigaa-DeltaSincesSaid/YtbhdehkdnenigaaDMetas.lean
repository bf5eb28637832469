/- Walks: metadata: the two answers of chapter 12; a version's own parts. -/
import Derived.Test.YtbhdehkdnenigaaDMeta
import Derived.Test.YtbhdehkdnenigaaOrd
set_option linter.unusedVariables false
set_option linter.unusedSimpArgs false
namespace Go.Proofs.Ytbhdehkdnenigaa
open Go.RowKit Go.Proofs.YtbhdehkdnenigaaW.PrintWords
attribute [local go_sem] Vn.val

def zPr : Pr := ⟨⟨#[]⟩, ⟨#[]⟩⟩
def rdP (l : List Pr) (i : Nat) : Pr := l.getD i zPr
theorem rdP_at {l : List Pr} {i : Nat} (h : i < l.length) : l[i] = rdP l i := by simp [rdP, h]
def mg (l : List Pr) (i : Nat) : Bool := sml (rdP l i).n 16 && decide ((rdP l i).v.size ≤ 64) && (i == 0 || Op.bytesLess (rdP l (i - 1)).n.toList (rdP l i).n.toList)
def mok (l : List Pr) : Bool := decide (l.length ≤ 8) && (List.range l.length).all (mg l)
def metaE (l : List Pr) : Int := if mok l then 0 else 62
theorem metaE_ok {l : List Pr} (h : mok l = true) : metaE l = 0 := by simp [metaE, h]
theorem metaE_bad {l : List Pr} (h : mok l = false) : metaE l = 62 := by simp [metaE, h]
def MgTo (l : List Pr) (k : Nat) : Prop := ∀ i, i < k → mg l i = true
theorem MgTo.ok {l : List Pr} (h : MgTo l l.length) (h8 : l.length ≤ 8) : mok l = true := by
  simp only [mok, h8, decide_true, Bool.true_and, List.all_eq_true, List.mem_range]
  exact h
theorem mok_bad {l : List Pr} {k : Nat} (h : k < l.length) (h1 : mg l k = false) : mok l = false := by
  rw [Bool.eq_false_iff]
  intro h2
  simp only [mok, Bool.and_eq_true, List.all_eq_true, List.mem_range] at h2
  rw [h2.2 k h] at h1
  cases h1
theorem MgTo.succ {l : List Pr} {k : Nat} (h : MgTo l k) (h1 : mg l k = true) : MgTo l (k + 1) := fun i hi => by
  rcases (show i < k ∨ i = k by omega) with h2 | rfl
  · exact h i h2
  · exact h1
/-- an element, by rdP -/
theorem kPr_rd {w : World} {A : Option Addr} {n : Nat} {xs : List Pr} (h : kPr.C w A n xs) (i : Nat) (hi : i < xs.length) :
    ∃ ad, A = some ad ∧ w.cell? (ad.add (i * 2)) = some (.string (rdP xs i).n) ∧ w.cell? ⟨(ad.add (i * 2)).block, (ad.add (i * 2)).off + 1, none⟩ = some (.string (rdP xs i).v) := by
  have := kPr_at h i hi
  rwa [rdP_at hi] at this
set_option maxRecDepth 100000 in
set_option maxHeartbeats 1000000 in
theorem refMeta_any (l : List Pr) (A : Option Addr) (c : Nat) (w : World) (hC : kPr.C w A l.length l) (hl : l.length ≤ c) (hs : ∀ p ∈ l, p.n.size ≤ 9223372036854775807 ∧ p.v.size ≤ 9223372036854775807) :
    Calls Try.prog 44 #[.slice A l.length c] w fun e w' => e = .returned (.int .i64 (metaE l)) ∧ Below w.heap.size w w' := by
  have HC := Lib.hid hC
  clear hC
  by_cases h8 : l.length ≤ 8
  · have b8 : decide ((8 : Int) < (l.length : Int)) = false := by simp; omega
    go_enter Try.func44, Try.ntmps44
    go_wp2
    go_loopw [3] (fun i wr => ∃ k : Nat, k ≤ l.length ∧ i = .int .i64 k ∧ Hid (MgTo l k) ∧ Below w.heap.size w wr) (fun i _ => l.length - (intOf i).toNat)
    case atStart => exact ⟨0, Nat.zero_le _, rfl, fun i hi => absurd hi (Nat.not_lt_zero _), Below.refl _ _⟩
    case round =>
      obtain ⟨k, hk, rfl, HM, hb⟩ := hrel
      have HCw := Kd.C_below HC.out hb
      by_cases hlt : k < l.length
      · obtain ⟨ad, rfl, h1, h2⟩ := kPr_rd HCw k hlt
        have hsz := hs _ (List.getElem_mem hlt)
        rw [rdP_at hlt] at hsz
        have hsm := fun w' => refSmall_any (rdP l k).n 16 w' hsz.1
        have hsv := hsz.2
        cases c1 : sml (rdP l k).n 16 with
        | false =>
          have HB := Lib.hid (metaE_bad (mok_bad hlt (by simp [mg, c1])))
          rw [c1] at hsm
          have HS := fun w' => Lib.hid (hsm w')
          clear hsm HCw hsz
          go_wp2
          go_quiet ((go_at_call 53; exact quiet_left (HS _).out))
          go_wp2
          go_ret
          refine ⟨ret_int ?_, below_drewN hb _⟩
          rw [HB.out]
        | true =>
          rw [c1] at hsm
          have HS := fun w' => Lib.hid (hsm w')
          by_cases c2 : (rdP l k).v.size ≤ 64
          · have b2 : decide ((64 : Int) < ((rdP l k).v.size : Int)) = false := by simp; omega
            by_cases c0 : k = 0
            · have HB : Hid (MgTo l (k + 1)) := HM.out.succ (by simp only [mg, c1, c2, c0, decide_true, beq_self_eq_true, Bool.true_or, Bool.and_true, Bool.true_and]; rw [← c0, c1]; simp [c2])
              have b3 : decide (0 < k) = false := by simp; omega
              clear hsm HCw hsz c0
              go_wp2
              go_quiet ((go_at_call 53; exact quiet_left (HS _).out))
              go_wp2
              go_roundw
              case rel => exact ⟨k + 1, by omega, by go_num, HB.out, below_drewN hb _⟩
              case measure => simp [intOf]; omega
            · obtain ⟨k, rfl⟩ : ∃ k', k = k' + 1 := ⟨k - 1, by omega⟩
              obtain ⟨ad', he, h3, h4⟩ := kPr_rd HCw k (by omega)
              injection he with he
              subst he
              cases c3 : Op.bytesLess (rdP l k).n.toList (rdP l (k + 1)).n.toList with
              | true =>
                have HB : Hid (MgTo l (k + 2)) := HM.out.succ (by simp [mg, c1, c2, c3])
                clear hsm HCw hsz c0
                go_wp2
                go_quiet ((go_at_call 53; exact quiet_left (HS _).out))
                go_wp2
                go_roundw
                case rel => exact ⟨k + 2, by omega, by go_num, HB.out, below_drewN hb _⟩
                case measure => simp [intOf]; omega
              | false =>
                have HB := Lib.hid (metaE_bad (mok_bad hlt (by simp [mg, c1, c2, c3])))
                clear hsm HCw hsz
                go_wp2
                go_quiet ((go_at_call 53; exact quiet_left (HS _).out))
                go_wp2
                go_ret
                refine ⟨ret_int ?_, below_drewN hb _⟩
                rw [HB.out]
          · have b2 : decide ((64 : Int) < ((rdP l k).v.size : Int)) = true := by simp; omega
            have HB := Lib.hid (metaE_bad (mok_bad hlt (by simp [mg, c1, c2])))
            clear hsm HCw hsz
            go_wp2
            go_quiet ((go_at_call 53; exact quiet_left (HS _).out))
            go_wp2
            go_ret
            refine ⟨ret_int ?_, below_drewN hb _⟩
            rw [HB.out]
      · obtain rfl : k = l.length := by omega
        have HB := Lib.hid (metaE_ok (HM.out.ok h8))
        clear HCw
        go_wp2
        go_ret
        refine ⟨ret_int ?_, hb⟩
        rw [HB.out]
  · have b8 : decide ((8 : Int) < (l.length : Int)) = true := by simp; omega
    have HB := Lib.hid (metaE_bad (l := l) (by simp [mok, h8]))
    go_enter Try.func44, Try.ntmps44
    go_wp2
    go_ret
    refine ⟨ret_int ?_, Below.refl _ _⟩
    rw [HB.out]
end Go.Proofs.Ytbhdehkdnenigaa
