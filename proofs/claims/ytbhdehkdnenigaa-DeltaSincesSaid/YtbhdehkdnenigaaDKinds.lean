/- The kinds of this seat: a pair of metadata, a version, as rows of cells. -/
import Derived.Test.YtbhdehkdnenigaaBs
import Derived.Test.YtbhdehkdnenigaaWWords
set_option linter.unusedVariables false
set_option linter.unusedSimpArgs false
namespace Go.Proofs.Ytbhdehkdnenigaa
open Go.RowKit Go.Proofs.YtbhdehkdnenigaaW.PrintWords

structure Pr where
  n : ByteArray
  v : ByteArray
deriving DecidableEq
def kPr : Kd Pr := Kd.iso (Kd.pair Kd.string Kd.string) (fun x : Pr => (x.n, x.v))
theorem kPr_open {w : World} {x : Pr} {cs : List Value} (h : kPr.K w x cs) : cs = [.string x.n, .string x.v] := by
  obtain ⟨_, _, rfl, rfl, rfl⟩ := h
  exact rfl
theorem kPr_openM {w : World} {base : Nat} {ok : Nat → Prop} {x : Pr} {cs : List Value} (h : kPr.M w base ok x cs) : cs = [.string x.n, .string x.v] := by
  obtain ⟨_, _, rfl, rfl, rfl⟩ := h
  exact rfl
theorem kPr_mk (w : World) (x : Pr) : kPr.K w x [.string x.n, .string x.v] := ⟨[.string x.n], [.string x.v], rfl, rfl, rfl⟩
theorem kPr_mkM (w : World) (base : Nat) (ok : Nat → Prop) (x : Pr) : kPr.M w base ok x [.string x.n, .string x.v] := ⟨[.string x.n], [.string x.v], rfl, rfl, rfl⟩
/-- an element of a row of pairs -/
theorem kPr_at {w : World} {A : Option Addr} {n : Nat} {xs : List Pr} (h : kPr.C w A n xs) (i : Nat) (hi : i < xs.length) :
    ∃ ad, A = some ad ∧ w.cell? (ad.add (i * 2)) = some (.string xs[i].n) ∧ w.cell? ⟨(ad.add (i * 2)).block, (ad.add (i * 2)).off + 1, none⟩ = some (.string xs[i].v) := by
  obtain ⟨ad, e, hc⟩ := h.2.2 (by have := h.1; omega)
  obtain ⟨c, hs, hr, hcell⟩ := hc i _ (List.getElem?_eq_getElem hi)
  obtain rfl := kPr_open hr
  exact ⟨ad, e, hcell 0 _ rfl, by rw [← add_field _ _ 1 (by omega)]; exact hcell 1 _ rfl⟩

structure Vn where
  key : ByteArray
  seq : Int
  gone : Bool
  data : ByteArray
  pairs : List Pr
deriving DecidableEq
def kVn : Kd Vn := Kd.iso (Kd.pair Kd.string (Kd.pair (Kd.int .i64) (Kd.pair Kd.bool (Kd.pair Kd.string (Kd.slice 60 kPr))))) (fun x : Vn => (x.key, x.seq, x.gone, x.data, x.pairs))
theorem kVn_open {w : World} {x : Vn} {cs : List Value} (h : kVn.K w x cs) : ∃ A c, cs = [.string x.key, .int .i64 x.seq, .bool x.gone, .string x.data, .slice A x.pairs.length c] ∧ x.pairs.length ≤ c ∧ kPr.C w A x.pairs.length x.pairs := by
  obtain ⟨_, _, rfl, rfl, ⟨_, _, rfl, rfl, ⟨_, _, rfl, rfl, ⟨_, _, rfl, rfl, ⟨A4, c4, rfl, l4, g4⟩⟩⟩⟩⟩ := h
  exact ⟨A4, c4, rfl, l4, g4⟩
theorem kVn_openM {w : World} {base : Nat} {ok : Nat → Prop} {x : Vn} {cs : List Value} (h : kVn.M w base ok x cs) : ∃ v, cs = [.string x.key, .int .i64 x.seq, .bool x.gone, .string x.data, v] ∧ kPr.R 60 w base ok v x.pairs := by
  obtain ⟨_, _, rfl, rfl, ⟨_, _, rfl, rfl, ⟨_, _, rfl, rfl, ⟨_, _, rfl, rfl, ⟨v4, rfl, g4⟩⟩⟩⟩⟩ := h
  exact ⟨v4, rfl, g4⟩
theorem kVn_mk (w : World) (x : Vn) {A : Option Addr} {c : Nat} (l : x.pairs.length ≤ c) (g : kPr.C w A x.pairs.length x.pairs) : kVn.K w x [.string x.key, .int .i64 x.seq, .bool x.gone, .string x.data, .slice A x.pairs.length c] :=
  ⟨[.string x.key], [.int .i64 x.seq, .bool x.gone, .string x.data, .slice A x.pairs.length c], rfl, rfl, ⟨[.int .i64 x.seq], [.bool x.gone, .string x.data, .slice A x.pairs.length c], rfl, rfl, ⟨[.bool x.gone], [.string x.data, .slice A x.pairs.length c], rfl, rfl, ⟨[.string x.data], [.slice A x.pairs.length c], rfl, rfl, ⟨A, c, rfl, l, g⟩⟩⟩⟩⟩
theorem kVn_mkM (w : World) (base : Nat) (ok : Nat → Prop) (x : Vn) {v : Value} (g : kPr.R 60 w base ok v x.pairs) : kVn.M w base ok x [.string x.key, .int .i64 x.seq, .bool x.gone, .string x.data, v] :=
  ⟨[.string x.key], [.int .i64 x.seq, .bool x.gone, .string x.data, v], rfl, rfl, ⟨[.int .i64 x.seq], [.bool x.gone, .string x.data, v], rfl, rfl, ⟨[.bool x.gone], [.string x.data, v], rfl, rfl, ⟨[.string x.data], [v], rfl, rfl, ⟨v, rfl, g⟩⟩⟩⟩⟩
/-- an element of a row of versions -/
theorem kVn_at {w : World} {A : Option Addr} {n : Nat} {xs : List Vn} (h : kVn.C w A n xs) (i : Nat) (hi : i < xs.length) :
    ∃ ad A4 c4, A = some ad ∧ w.cell? (ad.add (i * 5)) = some (.string xs[i].key) ∧ w.cell? ⟨(ad.add (i * 5)).block, (ad.add (i * 5)).off + 1, none⟩ = some (.int .i64 xs[i].seq) ∧ w.cell? ⟨(ad.add (i * 5)).block, (ad.add (i * 5)).off + 2, none⟩ = some (.bool xs[i].gone) ∧ w.cell? ⟨(ad.add (i * 5)).block, (ad.add (i * 5)).off + 3, none⟩ = some (.string xs[i].data) ∧ w.cell? ⟨(ad.add (i * 5)).block, (ad.add (i * 5)).off + 4, none⟩ = some (.slice A4 xs[i].pairs.length c4) ∧ xs[i].pairs.length ≤ c4 ∧ kPr.C w A4 xs[i].pairs.length xs[i].pairs := by
  obtain ⟨ad, e, hc⟩ := h.2.2 (by have := h.1; omega)
  obtain ⟨c, hs, hr, hcell⟩ := hc i _ (List.getElem?_eq_getElem hi)
  obtain ⟨A4, c4, rfl, l4, g4⟩ := kVn_open hr
  exact ⟨ad, A4, c4, e, hcell 0 _ rfl, by rw [← add_field _ _ 1 (by omega)]; exact hcell 1 _ rfl, by rw [← add_field _ _ 2 (by omega)]; exact hcell 2 _ rfl, by rw [← add_field _ _ 3 (by omega)]; exact hcell 3 _ rfl, by rw [← add_field _ _ 4 (by omega)]; exact hcell 4 _ rfl, l4, g4⟩
/-- a version handed over as a value -/
def Vn.val (x : Vn) (A : Option Addr) (c : Nat) : Value := .agg #[.string x.key, .int .i64 x.seq, .bool x.gone, .string x.data, .slice A x.pairs.length c]
end Go.Proofs.Ytbhdehkdnenigaa
