/- Faces: contracts that were walked by hand, told in the words that the kit's print uses for its own functions. -/
import Derived.Test.YtbhdehkdnenigaaPDeltaLaidx0
import Derived.Test.YtbhdehkdnenigaaDCopy
import Derived.Test.YtbhdehkdnenigaaDBytes
set_option linter.unusedVariables false
set_option linter.unusedSimpArgs false
namespace Go.Proofs.Ytbhdehkdnenigaa
open Go.RowKit Go.Proofs.YtbhdehkdnenigaaW.PrintWords PDeltaLaid

theorem C_map {α β : Type} {d : Kd α} {d' : Kd β} (f : α → β) (hsz : d.sz = d'.sz) {w : World} (h : ∀ x cs, d.K w x cs → d'.K w (f x) cs) {A : Option Addr} {n : Nat} {xs : List α} (hC : d.C w A n xs) : d'.C w A n (xs.map f) := by
  refine ⟨by rw [List.length_map]; exact hC.1, hC.2.1, fun hn => ?_⟩
  obtain ⟨ad, e, hc⟩ := hC.2.2 hn
  refine ⟨ad, e, fun j p hp => ?_⟩
  rw [List.getElem?_map] at hp
  obtain ⟨x, hx, rfl⟩ := Option.map_eq_some_iff.1 hp
  obtain ⟨c, hs, hr, hcell⟩ := hc j x hx
  exact ⟨c, hs.trans hsz, h _ _ hr, fun i u hu => by rw [← hsz]; exact hcell i u hu⟩
def of60 (x : S60) : Pr := ⟨x.f0, x.f1⟩
def to60 (x : Pr) : S60 := ⟨x.n, x.v⟩
def of48 (x : S48) : Vn := ⟨x.f0, x.f1, x.f2, x.f3, x.f4.map of60⟩
def to48 (x : Vn) : S48 := ⟨x.key, x.seq, x.gone, x.data, x.pairs.map to60⟩
theorem of_to60 (l : List Pr) : (l.map to60).map of60 = l := by
  rw [List.map_map]
  exact List.map_id' l
theorem of_to48 (x : Vn) : of48 (to48 x) = x := by
  show (⟨x.key, x.seq, x.gone, x.data, (x.pairs.map to60).map of60⟩ : Vn) = x
  rw [of_to60]
theorem of_to48s (l : List Vn) : (l.map to48).map of48 = l := by
  rw [List.map_map]
  exact (List.map_congr_left (fun x _ => of_to48 x)).trans (List.map_id' l)
theorem C_of60 {w : World} {A : Option Addr} {n : Nat} {xs : List S60} (h : Kd.C k60 w A n xs) : kPr.C w A n (xs.map of60) := C_map of60 rfl (fun x cs hk => by rw [k60_open hk]; exact kPr_mk w (of60 x)) h
theorem C_to60 {w : World} {A : Option Addr} {n : Nat} {xs : List Pr} (h : kPr.C w A n xs) : Kd.C k60 w A n (xs.map to60) := C_map to60 rfl (fun x cs hk => by rw [kPr_open hk]; exact k60_mk w (to60 x)) h
theorem C_of48 {w : World} {A : Option Addr} {n : Nat} {xs : List S48} (h : Kd.C k48 w A n xs) : kVn.C w A n (xs.map of48) := C_map of48 rfl (fun x cs hk => by
  obtain ⟨A4, c4, rfl, l4, g4⟩ := k48_open hk
  have := kVn_mk w (of48 x) (A := A4) (c := c4) (by simpa [of48] using l4) (by simpa [of48] using C_of60 g4)
  simpa [of48] using this) h
theorem C_to48 {w : World} {A : Option Addr} {n : Nat} {xs : List Vn} (h : kVn.C w A n xs) : Kd.C k48 w A n (xs.map to48) := C_map to48 rfl (fun x cs hk => by
  obtain ⟨A4, c4, rfl, l4, g4⟩ := kVn_open hk
  have := k48_mk w (to48 x) (A4 := A4) (c4 := c4) (by simpa [to48] using l4) (by simpa [to48] using C_to60 g4)
  simpa [to48] using this) h
def fitsB (x : Vn) : Bool := decide (x.key.size ≤ 140737488355328) && decide (x.data.size ≤ 140737488355328) && x.pairs.all (fun p => decide (p.n.size ≤ 140737488355328) && decide (p.v.size ≤ 140737488355328))
theorem fitsB_iff (x : Vn) : fitsB x = true ↔ x.Fits := by
  simp only [fitsB, Bool.and_eq_true, List.all_eq_true, decide_eq_true_eq]
  exact ⟨fun h => ⟨h.1.1, h.1.2, h.2⟩, fun h => ⟨⟨h.key, h.data⟩, h.pairs⟩⟩

namespace PDeltaLaid
def cofferref15_well.f (k : Nat) (a0_0 : ByteArray) (a0_1 : Int) (a0_2 : Bool) (a0_3 : ByteArray) (l0_4 : List (S60)) : Option (Bool) := if fitsB (of48 ⟨a0_0, a0_1, a0_2, a0_3, l0_4⟩) = true then some (wel (of48 ⟨a0_0, a0_1, a0_2, a0_3, l0_4⟩)) else none
theorem cofferref15_well.mono : ∀ a0 a1 a2 a3 a4 k, LeO (cofferref15_well.f k a0 a1 a2 a3 a4) (cofferref15_well.f (k + 1) a0 a1 a2 a3 a4) := fun _ _ _ _ _ _ _ h => h
theorem cofferref15_well.calls (k : Nat) (a0_0 : ByteArray) (a0_1 : Int) (a0_2 : Bool) (a0_3 : ByteArray) (A0_4 : Option Addr) (c0_4 : Nat) (l0_4 : List (S60)) (r : Bool) (w : World) (hr0_4 : Kd.C k60 w A0_4 l0_4.length l0_4) (hc0_4 : l0_4.length ≤ c0_4) (h : cofferref15_well.f k a0_0 a0_1 a0_2 a0_3 l0_4 = some r) :
    Calls Try.prog 30 #[.agg #[.string a0_0, .int .i64 a0_1, .bool a0_2, .string a0_3, .slice A0_4 l0_4.length c0_4]] w fun e w' => e = .returned (.bool r) ∧ Below w.heap.size w w' := by
  unfold cofferref15_well.f at h
  split at h
  · next hf =>
    cases h
    have := well_any (of48 ⟨a0_0, a0_1, a0_2, a0_3, l0_4⟩) A0_4 c0_4 w (by simpa [of48] using C_of60 hr0_4) (by simpa [of48] using hc0_4) ((fitsB_iff _).1 hf)
    simpa [of48, Vn.val] using this
  · cases h
def cofferref15_ahead.f (a0_0 : ByteArray) (a0_1 : Int) (a0_2 : Bool) (a0_3 : ByteArray) (l0_4 : List (S60)) (a1_0 : ByteArray) (a1_1 : Int) (a1_2 : Bool) (a1_3 : ByteArray) (l1_4 : List (S60)) : Option (Bool) := some (va (of48 ⟨a0_0, a0_1, a0_2, a0_3, l0_4⟩) (of48 ⟨a1_0, a1_1, a1_2, a1_3, l1_4⟩))
theorem cofferref15_ahead.calls (a0_0 : ByteArray) (a0_1 : Int) (a0_2 : Bool) (a0_3 : ByteArray) (A0_4 : Option Addr) (c0_4 : Nat) (l0_4 : List (S60)) (a1_0 : ByteArray) (a1_1 : Int) (a1_2 : Bool) (a1_3 : ByteArray) (A1_4 : Option Addr) (c1_4 : Nat) (l1_4 : List (S60)) (r : Bool) (w : World) (hr0_4 : Kd.C k60 w A0_4 l0_4.length l0_4) (hc0_4 : l0_4.length ≤ c0_4) (hr1_4 : Kd.C k60 w A1_4 l1_4.length l1_4) (hc1_4 : l1_4.length ≤ c1_4) (h : cofferref15_ahead.f a0_0 a0_1 a0_2 a0_3 l0_4 a1_0 a1_1 a1_2 a1_3 l1_4 = some r) :
    Calls Try.prog 31 #[.agg #[.string a0_0, .int .i64 a0_1, .bool a0_2, .string a0_3, .slice A0_4 l0_4.length c0_4], .agg #[.string a1_0, .int .i64 a1_1, .bool a1_2, .string a1_3, .slice A1_4 l1_4.length c1_4]] w fun e w' => e = .returned (.bool r) ∧ Below w.heap.size w w' := by
  cases h
  have := ahead15_any (of48 ⟨a0_0, a0_1, a0_2, a0_3, l0_4⟩) (of48 ⟨a1_0, a1_1, a1_2, a1_3, l1_4⟩) A0_4 A1_4 c0_4 c1_4 w
  simpa [of48, Vn.val] using this
def cofferref15_Bytes.f (k : Nat) (a0_0 : Int) (l0_1 : List (S48)) : Option (Int) := if (l0_1.map of48).all fitsB = true then some (wrap64 (bsize (l0_1.map of48))) else none
theorem cofferref15_Bytes.mono : ∀ a0 a1 k, LeO (cofferref15_Bytes.f k a0 a1) (cofferref15_Bytes.f (k + 1) a0 a1) := fun _ _ _ _ h => h
theorem cofferref15_Bytes.calls (k : Nat) (a0_0 : Int) (A0_1 : Option Addr) (c0_1 : Nat) (l0_1 : List (S48)) (r : Int) (w : World) (hr0_1 : Kd.C k48 w A0_1 l0_1.length l0_1) (hc0_1 : l0_1.length ≤ c0_1) (h : cofferref15_Bytes.f k a0_0 l0_1 = some r) :
    Calls Try.prog 21 #[.agg #[.int .i64 a0_0, .slice A0_1 l0_1.length c0_1]] w fun e w' => e = .returned (.int .i64 r) ∧ Below w.heap.size w w' := by
  unfold cofferref15_Bytes.f at h
  split at h
  · next hf =>
    cases h
    have := refBytes_any (l0_1.map of48) a0_0 A0_1 c0_1 w (by simpa using C_of48 hr0_1) (by simpa using hc0_1) (fun x hx => (fitsB_iff x).1 (List.all_eq_true.1 hf x hx))
    simpa using this
  · cases h
end PDeltaLaid
end Go.Proofs.Ytbhdehkdnenigaa
