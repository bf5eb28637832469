/-
  No cell of these rows narrows 'for every input' (looked for: loops, veiled, ifaces, maps, wideKeys, modest, calm, conditions, laid).
  DERIVED. THE GIVEN ROWS OF THIS SEAT. 5 by the template 'for every input the law returns true; each argument reads behind the call as it read before'; 0 by the template 'total and deterministic' (their statements: YtbhdehkdnenigaaTotals.lean).
  GIVEN WITH THE SEED: the statements are not yours to turn. If you find one false, say at which input.
  Laid BY PROGRAM, IN A SANDBOX (cutbox-rows.mjs): the forced cells as the released guide's own fill.sh prints them over the translation 4982e9be92414821… (all of the seat's roots in one cut). By AI agents, Wed Nov 11 2026. No macro, syntax, notation, axiom, sorry.
-/
import Derived.Test.YtbhdehkdnenigaaChecked
import GoSem.Claim
import GoSem.ClaimJoined
import GoSem.ClaimMapViews
import Derived.JoinedTies
import Derived.KernelRfl
namespace Go.Proofs.Ytbhdehkdnenigaa
/- THE CELL 'sum', in the pinned program and in every row, IS THE sha256 OF THE DUMP (.gsa) THAT YtbhdehkdnenigaaProg.lean LOADS. Nothing in Lean hashes anything: it is a label: what it is worth is what the hold of that sum in a sandbox is worth. -/
noncomputable def Try.pinned : Pinned := { name := "ytbhdehkdnenigaa", sum := "4982e9be924148217f83a5da341d3e4ebf147482204db9d5399b61c5dff2011d", checked := Try.checked }
namespace Rows
def none {H : Type} : Left H := { results := [], args := [] }

/-- 'cofferlaw19.DeltaSinces': WHATEVER THE INPUT: true; the input reads as it did. -/
def deltaSincesSpec : ChangeSpec := { name := "deltaSinces", fn := fun _ => fun
  | [d1, d2] => { results := [.lit (.bool true)], args := [d1, d2] }
  | _ => none }
def deltaSincesRow : OpenClaim := { program := "ytbhdehkdnenigaa", sum := "4982e9be924148217f83a5da341d3e4ebf147482204db9d5399b61c5dff2011d", func := "coffer/cofferlaw19.DeltaSinces", spec := "deltaSinces", unfollowed := true, recurses := true, apart := false }
def DeltaSincesSaid : Prop := deltaSincesRow.holds Try.pinned (OpenSpec.ofChange deltaSincesSpec)

/-- ITS FALSE NEIGHBOUR: 'it returns false'. Refute it at one input. -/
def deltaSincesWrong : ChangeSpec := { name := "deltaSinces", fn := fun _ => fun
  | [d1, d2] => { results := [.lit (.bool false)], args := [d1, d2] }
  | _ => none }
def DeltaSincesWrongFalsely : Prop := deltaSincesRow.holds Try.pinned (OpenSpec.ofChange deltaSincesWrong)

/-- 'cofferlaw19.DeltaApplies': WHATEVER THE INPUT: true; the input reads as it did. -/
def deltaAppliesSpec : ChangeSpec := { name := "deltaApplies", fn := fun _ => fun
  | [d1, d2] => { results := [.lit (.bool true)], args := [d1, d2] }
  | _ => none }
def deltaAppliesRow : OpenClaim := { program := "ytbhdehkdnenigaa", sum := "4982e9be924148217f83a5da341d3e4ebf147482204db9d5399b61c5dff2011d", func := "coffer/cofferlaw19.DeltaApplies", spec := "deltaApplies", unfollowed := true, recurses := true, apart := false }
def DeltaAppliesSaid : Prop := deltaAppliesRow.holds Try.pinned (OpenSpec.ofChange deltaAppliesSpec)

/-- ITS FALSE NEIGHBOUR: 'it returns false'. Refute it at one input. -/
def deltaAppliesWrong : ChangeSpec := { name := "deltaApplies", fn := fun _ => fun
  | [d1, d2] => { results := [.lit (.bool false)], args := [d1, d2] }
  | _ => none }
def DeltaAppliesWrongFalsely : Prop := deltaAppliesRow.holds Try.pinned (OpenSpec.ofChange deltaAppliesWrong)

/-- 'cofferlaw19.DeltaForward': WHATEVER THE INPUT: true; the input reads as it did. -/
def deltaForwardSpec : ChangeSpec := { name := "deltaForward", fn := fun _ => fun
  | [d1, d2, d3] => { results := [.lit (.bool true)], args := [d1, d2, d3] }
  | _ => none }
def deltaForwardRow : OpenClaim := { program := "ytbhdehkdnenigaa", sum := "4982e9be924148217f83a5da341d3e4ebf147482204db9d5399b61c5dff2011d", func := "coffer/cofferlaw19.DeltaForward", spec := "deltaForward", unfollowed := true, recurses := true, apart := false }
def DeltaForwardSaid : Prop := deltaForwardRow.holds Try.pinned (OpenSpec.ofChange deltaForwardSpec)

/-- ITS FALSE NEIGHBOUR: 'it returns false'. Refute it at one input. -/
def deltaForwardWrong : ChangeSpec := { name := "deltaForward", fn := fun _ => fun
  | [d1, d2, d3] => { results := [.lit (.bool false)], args := [d1, d2, d3] }
  | _ => none }
def DeltaForwardWrongFalsely : Prop := deltaForwardRow.holds Try.pinned (OpenSpec.ofChange deltaForwardWrong)

/-- 'cofferlaw19.DeltaLaid': WHATEVER THE INPUT: true; the input reads as it did. -/
def deltaLaidSpec : ChangeSpec := { name := "deltaLaid", fn := fun _ => fun
  | [d1, d2, d3] => { results := [.lit (.bool true)], args := [d1, d2, d3] }
  | _ => none }
def deltaLaidRow : OpenClaim := { program := "ytbhdehkdnenigaa", sum := "4982e9be924148217f83a5da341d3e4ebf147482204db9d5399b61c5dff2011d", func := "coffer/cofferlaw19.DeltaLaid", spec := "deltaLaid", unfollowed := true, recurses := true, apart := false }
def DeltaLaidSaid : Prop := deltaLaidRow.holds Try.pinned (OpenSpec.ofChange deltaLaidSpec)

/-- ITS FALSE NEIGHBOUR: 'it returns false'. Refute it at one input. -/
def deltaLaidWrong : ChangeSpec := { name := "deltaLaid", fn := fun _ => fun
  | [d1, d2, d3] => { results := [.lit (.bool false)], args := [d1, d2, d3] }
  | _ => none }
def DeltaLaidWrongFalsely : Prop := deltaLaidRow.holds Try.pinned (OpenSpec.ofChange deltaLaidWrong)

/-- 'cofferlaw19.DeltaApart': WHATEVER THE INPUT: true; the input reads as it did. -/
def deltaApartSpec : ChangeSpec := { name := "deltaApart", fn := fun _ => fun
  | [d1, d2] => { results := [.lit (.bool true)], args := [d1, d2] }
  | _ => none }
def deltaApartRow : OpenClaim := { program := "ytbhdehkdnenigaa", sum := "4982e9be924148217f83a5da341d3e4ebf147482204db9d5399b61c5dff2011d", func := "coffer/cofferlaw19.DeltaApart", spec := "deltaApart", unfollowed := true, recurses := true, apart := false }
def DeltaApartSaid : Prop := deltaApartRow.holds Try.pinned (OpenSpec.ofChange deltaApartSpec)

/-- ITS FALSE NEIGHBOUR: 'it returns false'. Refute it at one input. -/
def deltaApartWrong : ChangeSpec := { name := "deltaApart", fn := fun _ => fun
  | [d1, d2] => { results := [.lit (.bool false)], args := [d1, d2] }
  | _ => none }
def DeltaApartWrongFalsely : Prop := deltaApartRow.holds Try.pinned (OpenSpec.ofChange deltaApartWrong)

/- THE SECOND FORM. 'bulk': how many values and letters a reading holds, each counted each time it is reached (what is shared counts as often as it is met; a slice's spare places count too). A statement '..UptoSaid' is the law's where the arguments, and the package variables that the reading takes, are together of bulk at most 1048576: NARROWER than '..Said'. Prove '..Said' where nothing that the law and all that it calls make is longer than what came in: it says more and counts as full. Else prove '..UptoSaid'. A law counts once. -/
mutual
def uptoBulk {H : Type} : DataW H → Nat
  | .lit (.string bytes) => bytes.length + 1
  | .lit _ => 1
  | .nil => 1
  | .ptr d => uptoBulk d + 1
  | .slice elems spare => uptoBulkAll elems + uptoBulkAll spare + 1
  | .agg parts => uptoBulkAll parts + 1
  | .iface _ d => uptoBulk d + 1
  | .map entries => uptoBulkEntries entries + 1
  | .held _ => 1
def uptoBulkAll {H : Type} : List (DataW H) → Nat
  | [] => 0
  | d :: r => uptoBulk d + uptoBulkAll r
def uptoBulkEntries {H : Type} : List (Lit × DataW H) → Nat
  | [] => 0
  | x :: r => uptoBulkEntry x + uptoBulkEntries r
def uptoBulkEntry {H : Type} : Lit × DataW H → Nat
  | (.string bytes, d) => bytes.length + uptoBulk d + 1
  | (_, d) => uptoBulk d + 1
 end
def uptoSmall : (H : Type) → List (DataW H) → Bool := fun _ ds => decide (uptoBulkAll ds ≤ 1048576)
def OpenSpec.upto (s : _root_.Go.ChangeSpec) : _root_.Go.OpenSpec := { _root_.Go.OpenSpec.ofChange s with cond := some uptoSmall }

/-- 'cofferlaw19.DeltaSinces', WHERE WHAT IT READS IS OF BULK AT MOST 1048576: true; the input reads as it did. -/
def deltaSincesUptoRow : OpenClaim := { program := "ytbhdehkdnenigaa", sum := "4982e9be924148217f83a5da341d3e4ebf147482204db9d5399b61c5dff2011d", func := "coffer/cofferlaw19.DeltaSinces", spec := "deltaSinces", unfollowed := true, recurses := true, apart := false, narrowed := true }
def DeltaSincesUptoSaid : Prop := deltaSincesUptoRow.holds Try.pinned (OpenSpec.upto deltaSincesSpec)

/-- 'cofferlaw19.DeltaApplies', WHERE WHAT IT READS IS OF BULK AT MOST 1048576: true; the input reads as it did. -/
def deltaAppliesUptoRow : OpenClaim := { program := "ytbhdehkdnenigaa", sum := "4982e9be924148217f83a5da341d3e4ebf147482204db9d5399b61c5dff2011d", func := "coffer/cofferlaw19.DeltaApplies", spec := "deltaApplies", unfollowed := true, recurses := true, apart := false, narrowed := true }
def DeltaAppliesUptoSaid : Prop := deltaAppliesUptoRow.holds Try.pinned (OpenSpec.upto deltaAppliesSpec)

/-- 'cofferlaw19.DeltaForward', WHERE WHAT IT READS IS OF BULK AT MOST 1048576: true; the input reads as it did. -/
def deltaForwardUptoRow : OpenClaim := { program := "ytbhdehkdnenigaa", sum := "4982e9be924148217f83a5da341d3e4ebf147482204db9d5399b61c5dff2011d", func := "coffer/cofferlaw19.DeltaForward", spec := "deltaForward", unfollowed := true, recurses := true, apart := false, narrowed := true }
def DeltaForwardUptoSaid : Prop := deltaForwardUptoRow.holds Try.pinned (OpenSpec.upto deltaForwardSpec)

/-- 'cofferlaw19.DeltaLaid', WHERE WHAT IT READS IS OF BULK AT MOST 1048576: true; the input reads as it did. -/
def deltaLaidUptoRow : OpenClaim := { program := "ytbhdehkdnenigaa", sum := "4982e9be924148217f83a5da341d3e4ebf147482204db9d5399b61c5dff2011d", func := "coffer/cofferlaw19.DeltaLaid", spec := "deltaLaid", unfollowed := true, recurses := true, apart := false, narrowed := true }
def DeltaLaidUptoSaid : Prop := deltaLaidUptoRow.holds Try.pinned (OpenSpec.upto deltaLaidSpec)

/-- 'cofferlaw19.DeltaApart', WHERE WHAT IT READS IS OF BULK AT MOST 1048576: true; the input reads as it did. -/
def deltaApartUptoRow : OpenClaim := { program := "ytbhdehkdnenigaa", sum := "4982e9be924148217f83a5da341d3e4ebf147482204db9d5399b61c5dff2011d", func := "coffer/cofferlaw19.DeltaApart", spec := "deltaApart", unfollowed := true, recurses := true, apart := false, narrowed := true }
def DeltaApartUptoSaid : Prop := deltaApartUptoRow.holds Try.pinned (OpenSpec.upto deltaApartSpec)

end Rows
end Go.Proofs.Ytbhdehkdnenigaa
