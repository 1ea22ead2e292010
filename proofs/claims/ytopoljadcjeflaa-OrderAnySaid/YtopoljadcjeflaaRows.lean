/-
  No cell of these rows narrows 'for every input' (looked for: loops, veiled, ifaces, maps, wideKeys, modest, calm, conditions, laid).
  DERIVED. THE GIVEN ROWS OF THIS SEAT. 12 by the template 'for every input the law returns true; each argument reads behind the call as it read before'; 0 by the template 'total and deterministic' (their statements: YtopoljadcjeflaaTotals.lean).
  GIVEN WITH THE SEED: the statements are not yours to turn. If you find one false, say at which input.
  Laid BY PROGRAM, IN A SANDBOX (cutbox-rows.mjs): the forced cells as the released guide's own fill.sh prints them over the translation 1f270e85e6584d99… (all of the seat's roots in one cut). By AI agents, Wed Nov 11 2026. No macro, syntax, notation, axiom, sorry.
-/
import Derived.Test.YtopoljadcjeflaaChecked
import GoSem.Claim
import GoSem.ClaimJoined
import GoSem.ClaimMapViews
import Derived.JoinedTies
import Derived.KernelRfl
namespace Go.Proofs.Ytopoljadcjeflaa
/- THE CELL 'sum', in the pinned program and in every row, IS THE sha256 OF THE DUMP (.gsa) THAT YtopoljadcjeflaaProg.lean LOADS. Nothing in Lean hashes anything: it is a label: what it is worth is what the hold of that sum in a sandbox is worth. -/
noncomputable def Try.pinned : Pinned := { name := "ytopoljadcjeflaa", sum := "1f270e85e6584d990e0210500e792f05e3049882de0797e9be479487b7418048", checked := Try.checked }
namespace Rows
def none {H : Type} : Left H := { results := [], args := [] }

/-- 'quittancelaw18.EventNeeds': WHATEVER THE INPUT: true; the input reads as it did. -/
def eventNeedsSpec : ChangeSpec := { name := "eventNeeds", fn := fun _ => fun
  | [d1, d2, d3, d4, d5] => { results := [.lit (.bool true)], args := [d1, d2, d3, d4, d5] }
  | _ => none }
def eventNeedsRow : OpenClaim := { program := "ytopoljadcjeflaa", sum := "1f270e85e6584d990e0210500e792f05e3049882de0797e9be479487b7418048", func := "quittance/quittancelaw18.EventNeeds", spec := "eventNeeds", unfollowed := true, recurses := true, apart := false }
def EventNeedsSaid : Prop := eventNeedsRow.holds Try.pinned (OpenSpec.ofChange eventNeedsSpec)

/-- ITS FALSE NEIGHBOUR: 'it returns false'. Refute it at one input. -/
def eventNeedsWrong : ChangeSpec := { name := "eventNeeds", fn := fun _ => fun
  | [d1, d2, d3, d4, d5] => { results := [.lit (.bool false)], args := [d1, d2, d3, d4, d5] }
  | _ => none }
def EventNeedsWrongFalsely : Prop := eventNeedsRow.holds Try.pinned (OpenSpec.ofChange eventNeedsWrong)

/-- 'quittancelaw18.EventTells': WHATEVER THE INPUT: true; the input reads as it did. -/
def eventTellsSpec : ChangeSpec := { name := "eventTells", fn := fun _ => fun
  | [d1, d2] => { results := [.lit (.bool true)], args := [d1, d2] }
  | _ => none }
def eventTellsRow : OpenClaim := { program := "ytopoljadcjeflaa", sum := "1f270e85e6584d990e0210500e792f05e3049882de0797e9be479487b7418048", func := "quittance/quittancelaw18.EventTells", spec := "eventTells", unfollowed := true, recurses := true, apart := false }
def EventTellsSaid : Prop := eventTellsRow.holds Try.pinned (OpenSpec.ofChange eventTellsSpec)

/-- ITS FALSE NEIGHBOUR: 'it returns false'. Refute it at one input. -/
def eventTellsWrong : ChangeSpec := { name := "eventTells", fn := fun _ => fun
  | [d1, d2] => { results := [.lit (.bool false)], args := [d1, d2] }
  | _ => none }
def EventTellsWrongFalsely : Prop := eventTellsRow.holds Try.pinned (OpenSpec.ofChange eventTellsWrong)

/-- 'quittancelaw18.EventBack': WHATEVER THE INPUT: true; the input reads as it did. -/
def eventBackSpec : ChangeSpec := { name := "eventBack", fn := fun _ => fun
  | [d1, d2] => { results := [.lit (.bool true)], args := [d1, d2] }
  | _ => none }
def eventBackRow : OpenClaim := { program := "ytopoljadcjeflaa", sum := "1f270e85e6584d990e0210500e792f05e3049882de0797e9be479487b7418048", func := "quittance/quittancelaw18.EventBack", spec := "eventBack", unfollowed := true, recurses := true, apart := false }
def EventBackSaid : Prop := eventBackRow.holds Try.pinned (OpenSpec.ofChange eventBackSpec)

/-- ITS FALSE NEIGHBOUR: 'it returns false'. Refute it at one input. -/
def eventBackWrong : ChangeSpec := { name := "eventBack", fn := fun _ => fun
  | [d1, d2] => { results := [.lit (.bool false)], args := [d1, d2] }
  | _ => none }
def EventBackWrongFalsely : Prop := eventBackRow.holds Try.pinned (OpenSpec.ofChange eventBackWrong)

/-- 'quittancelaw18.EventTurned': WHATEVER THE INPUT: true; the input reads as it did. -/
def eventTurnedSpec : ChangeSpec := { name := "eventTurned", fn := fun _ => fun
  | [d1, d2, d3] => { results := [.lit (.bool true)], args := [d1, d2, d3] }
  | _ => none }
def eventTurnedRow : OpenClaim := { program := "ytopoljadcjeflaa", sum := "1f270e85e6584d990e0210500e792f05e3049882de0797e9be479487b7418048", func := "quittance/quittancelaw18.EventTurned", spec := "eventTurned", unfollowed := true, recurses := true, apart := false }
def EventTurnedSaid : Prop := eventTurnedRow.holds Try.pinned (OpenSpec.ofChange eventTurnedSpec)

/-- ITS FALSE NEIGHBOUR: 'it returns false'. Refute it at one input. -/
def eventTurnedWrong : ChangeSpec := { name := "eventTurned", fn := fun _ => fun
  | [d1, d2, d3] => { results := [.lit (.bool false)], args := [d1, d2, d3] }
  | _ => none }
def EventTurnedWrongFalsely : Prop := eventTurnedRow.holds Try.pinned (OpenSpec.ofChange eventTurnedWrong)

/-- 'quittancelaw26.CodecTells': WHATEVER THE INPUT: true; the input reads as it did. -/
def codecTellsSpec : ChangeSpec := { name := "codecTells", fn := fun _ => fun
  | [d1, d2, d3] => { results := [.lit (.bool true)], args := [d1, d2, d3] }
  | _ => none }
def codecTellsRow : OpenClaim := { program := "ytopoljadcjeflaa", sum := "1f270e85e6584d990e0210500e792f05e3049882de0797e9be479487b7418048", func := "quittance/quittancelaw26.CodecTells", spec := "codecTells", unfollowed := true, recurses := true, apart := false }
def CodecTellsSaid : Prop := codecTellsRow.holds Try.pinned (OpenSpec.ofChange codecTellsSpec)

/-- ITS FALSE NEIGHBOUR: 'it returns false'. Refute it at one input. -/
def codecTellsWrong : ChangeSpec := { name := "codecTells", fn := fun _ => fun
  | [d1, d2, d3] => { results := [.lit (.bool false)], args := [d1, d2, d3] }
  | _ => none }
def CodecTellsWrongFalsely : Prop := codecTellsRow.holds Try.pinned (OpenSpec.ofChange codecTellsWrong)

/-- 'quittancelaw26.CodecBack': WHATEVER THE INPUT: true; the input reads as it did. -/
def codecBackSpec : ChangeSpec := { name := "codecBack", fn := fun _ => fun
  | [d1, d2, d3, d4] => { results := [.lit (.bool true)], args := [d1, d2, d3, d4] }
  | _ => none }
def codecBackRow : OpenClaim := { program := "ytopoljadcjeflaa", sum := "1f270e85e6584d990e0210500e792f05e3049882de0797e9be479487b7418048", func := "quittance/quittancelaw26.CodecBack", spec := "codecBack", unfollowed := true, recurses := true, apart := false }
def CodecBackSaid : Prop := codecBackRow.holds Try.pinned (OpenSpec.ofChange codecBackSpec)

/-- ITS FALSE NEIGHBOUR: 'it returns false'. Refute it at one input. -/
def codecBackWrong : ChangeSpec := { name := "codecBack", fn := fun _ => fun
  | [d1, d2, d3, d4] => { results := [.lit (.bool false)], args := [d1, d2, d3, d4] }
  | _ => none }
def CodecBackWrongFalsely : Prop := codecBackRow.holds Try.pinned (OpenSpec.ofChange codecBackWrong)

/-- 'quittancelaw26.CodecLong': WHATEVER THE INPUT: true; the input reads as it did. -/
def codecLongSpec : ChangeSpec := { name := "codecLong", fn := fun _ => fun
  | [d1, d2, d3] => { results := [.lit (.bool true)], args := [d1, d2, d3] }
  | _ => none }
def codecLongRow : OpenClaim := { program := "ytopoljadcjeflaa", sum := "1f270e85e6584d990e0210500e792f05e3049882de0797e9be479487b7418048", func := "quittance/quittancelaw26.CodecLong", spec := "codecLong", unfollowed := true, recurses := true, apart := false }
def CodecLongSaid : Prop := codecLongRow.holds Try.pinned (OpenSpec.ofChange codecLongSpec)

/-- ITS FALSE NEIGHBOUR: 'it returns false'. Refute it at one input. -/
def codecLongWrong : ChangeSpec := { name := "codecLong", fn := fun _ => fun
  | [d1, d2, d3] => { results := [.lit (.bool false)], args := [d1, d2, d3] }
  | _ => none }
def CodecLongWrongFalsely : Prop := codecLongRow.holds Try.pinned (OpenSpec.ofChange codecLongWrong)

/-- 'quittancelaw19.OrderRefuses': WHATEVER THE INPUT: true; the input reads as it did. -/
def orderRefusesSpec : ChangeSpec := { name := "orderRefuses", fn := fun _ => fun
  | [d] => { results := [.lit (.bool true)], args := [d] }
  | _ => none }
def orderRefusesRow : OpenClaim := { program := "ytopoljadcjeflaa", sum := "1f270e85e6584d990e0210500e792f05e3049882de0797e9be479487b7418048", func := "quittance/quittancelaw19.OrderRefuses", spec := "orderRefuses", inPlace := ["slices.overlaps[quittance/api.Event]"], unfollowed := true, recurses := true, apart := false }
def OrderRefusesSaid : Prop := orderRefusesRow.holds Try.pinned (OpenSpec.ofChange orderRefusesSpec)

/-- ITS FALSE NEIGHBOUR: 'it returns false'. Refute it at one input. -/
def orderRefusesWrong : ChangeSpec := { name := "orderRefuses", fn := fun _ => fun
  | [d] => { results := [.lit (.bool false)], args := [d] }
  | _ => none }
def OrderRefusesWrongFalsely : Prop := orderRefusesRow.holds Try.pinned (OpenSpec.ofChange orderRefusesWrong)

/-- 'quittancelaw19.OrderAny': WHATEVER THE INPUT: true; the input reads as it did. -/
def orderAnySpec : ChangeSpec := { name := "orderAny", fn := fun _ => fun
  | [d1, d2, d3] => { results := [.lit (.bool true)], args := [d1, d2, d3] }
  | _ => none }
def orderAnyRow : OpenClaim := { program := "ytopoljadcjeflaa", sum := "1f270e85e6584d990e0210500e792f05e3049882de0797e9be479487b7418048", func := "quittance/quittancelaw19.OrderAny", spec := "orderAny", inPlace := ["slices.overlaps[quittance/api.Event]"], unfollowed := true, recurses := true, apart := false }
def OrderAnySaid : Prop := orderAnyRow.holds Try.pinned (OpenSpec.ofChange orderAnySpec)

/-- ITS FALSE NEIGHBOUR: 'it returns false'. Refute it at one input. -/
def orderAnyWrong : ChangeSpec := { name := "orderAny", fn := fun _ => fun
  | [d1, d2, d3] => { results := [.lit (.bool false)], args := [d1, d2, d3] }
  | _ => none }
def OrderAnyWrongFalsely : Prop := orderAnyRow.holds Try.pinned (OpenSpec.ofChange orderAnyWrong)

/-- 'quittancelaw19.OrderStands': WHATEVER THE INPUT: true; the input reads as it did. -/
def orderStandsSpec : ChangeSpec := { name := "orderStands", fn := fun _ => fun
  | [d1, d2] => { results := [.lit (.bool true)], args := [d1, d2] }
  | _ => none }
def orderStandsRow : OpenClaim := { program := "ytopoljadcjeflaa", sum := "1f270e85e6584d990e0210500e792f05e3049882de0797e9be479487b7418048", func := "quittance/quittancelaw19.OrderStands", spec := "orderStands", inPlace := ["slices.overlaps[quittance/api.Event]"], unfollowed := true, recurses := true, apart := false }
def OrderStandsSaid : Prop := orderStandsRow.holds Try.pinned (OpenSpec.ofChange orderStandsSpec)

/-- ITS FALSE NEIGHBOUR: 'it returns false'. Refute it at one input. -/
def orderStandsWrong : ChangeSpec := { name := "orderStands", fn := fun _ => fun
  | [d1, d2] => { results := [.lit (.bool false)], args := [d1, d2] }
  | _ => none }
def OrderStandsWrongFalsely : Prop := orderStandsRow.holds Try.pinned (OpenSpec.ofChange orderStandsWrong)

/-- 'quittancelaw19.OrderPlays': WHATEVER THE INPUT: true; the input reads as it did. -/
def orderPlaysSpec : ChangeSpec := { name := "orderPlays", fn := fun _ => fun
  | [d1, d2, d3, d4] => { results := [.lit (.bool true)], args := [d1, d2, d3, d4] }
  | _ => none }
def orderPlaysRow : OpenClaim := { program := "ytopoljadcjeflaa", sum := "1f270e85e6584d990e0210500e792f05e3049882de0797e9be479487b7418048", func := "quittance/quittancelaw19.OrderPlays", spec := "orderPlays", inPlace := ["slices.overlaps[quittance/api.Event]", "maps.clone"], unfollowed := true, recurses := true, apart := false }
def OrderPlaysSaid : Prop := orderPlaysRow.holds Try.pinned (OpenSpec.ofChange orderPlaysSpec)

/-- ITS FALSE NEIGHBOUR: 'it returns false'. Refute it at one input. -/
def orderPlaysWrong : ChangeSpec := { name := "orderPlays", fn := fun _ => fun
  | [d1, d2, d3, d4] => { results := [.lit (.bool false)], args := [d1, d2, d3, d4] }
  | _ => none }
def OrderPlaysWrongFalsely : Prop := orderPlaysRow.holds Try.pinned (OpenSpec.ofChange orderPlaysWrong)

/-- 'quittancelaw19.OrderNil': WHATEVER THE INPUT: true; the input reads as it did. -/
def orderNilSpec : ChangeSpec := { name := "orderNil", fn := fun _ => fun
  | [d] => { results := [.lit (.bool true)], args := [d] }
  | _ => none }
def orderNilRow : OpenClaim := { program := "ytopoljadcjeflaa", sum := "1f270e85e6584d990e0210500e792f05e3049882de0797e9be479487b7418048", func := "quittance/quittancelaw19.OrderNil", spec := "orderNil", inPlace := ["slices.overlaps[quittance/api.Event]", "maps.clone"], unfollowed := true, recurses := true, apart := false }
def OrderNilSaid : Prop := orderNilRow.holds Try.pinned (OpenSpec.ofChange orderNilSpec)

/-- ITS FALSE NEIGHBOUR: 'it returns false'. Refute it at one input. -/
def orderNilWrong : ChangeSpec := { name := "orderNil", fn := fun _ => fun
  | [d] => { results := [.lit (.bool false)], args := [d] }
  | _ => none }
def OrderNilWrongFalsely : Prop := orderNilRow.holds Try.pinned (OpenSpec.ofChange orderNilWrong)

/- THE SECOND FORM. 'bulk': how many values and letters a reading holds, each counted each time it is reached (what is shared counts as often as it is met; a slice's spare places count too). A statement '..UptoSaid' is the law's where the arguments, and the package variables that the reading takes, are together of bulk at most 1048576: NARROWER than '..Said'. Prove '..Said' where nothing that the law and all that it calls make is longer than what came in: it says more and counts as full. Else prove '..UptoSaid'. A law counts once. -/
mutual
def uptoBulk {H : Type} : DataW H → Nat
  | .lit (.string bytes) => bytes.length + 1
  | .lit _ => 1
  | .nil => 1
  | .ptr d => uptoBulk d + 1
  | .slice elems spare => uptoBulkAll elems + uptoBulkAll spare + 1
  | .agg parts => uptoBulkAll parts + 1
  | .iface _ d => uptoBulk d + 1
  | .map entries => uptoBulkEntries entries + 1
  | .held _ => 1
def uptoBulkAll {H : Type} : List (DataW H) → Nat
  | [] => 0
  | d :: r => uptoBulk d + uptoBulkAll r
def uptoBulkEntries {H : Type} : List (Lit × DataW H) → Nat
  | [] => 0
  | x :: r => uptoBulkEntry x + uptoBulkEntries r
def uptoBulkEntry {H : Type} : Lit × DataW H → Nat
  | (.string bytes, d) => bytes.length + uptoBulk d + 1
  | (_, d) => uptoBulk d + 1
 end
def uptoSmall : (H : Type) → List (DataW H) → Bool := fun _ ds => decide (uptoBulkAll ds ≤ 1048576)
def OpenSpec.upto (s : _root_.Go.ChangeSpec) : _root_.Go.OpenSpec := { _root_.Go.OpenSpec.ofChange s with cond := some uptoSmall }

/-- 'quittancelaw18.EventNeeds', WHERE WHAT IT READS IS OF BULK AT MOST 1048576: true; the input reads as it did. -/
def eventNeedsUptoRow : OpenClaim := { program := "ytopoljadcjeflaa", sum := "1f270e85e6584d990e0210500e792f05e3049882de0797e9be479487b7418048", func := "quittance/quittancelaw18.EventNeeds", spec := "eventNeeds", unfollowed := true, recurses := true, apart := false, narrowed := true }
def EventNeedsUptoSaid : Prop := eventNeedsUptoRow.holds Try.pinned (OpenSpec.upto eventNeedsSpec)

/-- 'quittancelaw18.EventTells', WHERE WHAT IT READS IS OF BULK AT MOST 1048576: true; the input reads as it did. -/
def eventTellsUptoRow : OpenClaim := { program := "ytopoljadcjeflaa", sum := "1f270e85e6584d990e0210500e792f05e3049882de0797e9be479487b7418048", func := "quittance/quittancelaw18.EventTells", spec := "eventTells", unfollowed := true, recurses := true, apart := false, narrowed := true }
def EventTellsUptoSaid : Prop := eventTellsUptoRow.holds Try.pinned (OpenSpec.upto eventTellsSpec)

/-- 'quittancelaw18.EventBack', WHERE WHAT IT READS IS OF BULK AT MOST 1048576: true; the input reads as it did. -/
def eventBackUptoRow : OpenClaim := { program := "ytopoljadcjeflaa", sum := "1f270e85e6584d990e0210500e792f05e3049882de0797e9be479487b7418048", func := "quittance/quittancelaw18.EventBack", spec := "eventBack", unfollowed := true, recurses := true, apart := false, narrowed := true }
def EventBackUptoSaid : Prop := eventBackUptoRow.holds Try.pinned (OpenSpec.upto eventBackSpec)

/-- 'quittancelaw18.EventTurned', WHERE WHAT IT READS IS OF BULK AT MOST 1048576: true; the input reads as it did. -/
def eventTurnedUptoRow : OpenClaim := { program := "ytopoljadcjeflaa", sum := "1f270e85e6584d990e0210500e792f05e3049882de0797e9be479487b7418048", func := "quittance/quittancelaw18.EventTurned", spec := "eventTurned", unfollowed := true, recurses := true, apart := false, narrowed := true }
def EventTurnedUptoSaid : Prop := eventTurnedUptoRow.holds Try.pinned (OpenSpec.upto eventTurnedSpec)

/-- 'quittancelaw26.CodecTells', WHERE WHAT IT READS IS OF BULK AT MOST 1048576: true; the input reads as it did. -/
def codecTellsUptoRow : OpenClaim := { program := "ytopoljadcjeflaa", sum := "1f270e85e6584d990e0210500e792f05e3049882de0797e9be479487b7418048", func := "quittance/quittancelaw26.CodecTells", spec := "codecTells", unfollowed := true, recurses := true, apart := false, narrowed := true }
def CodecTellsUptoSaid : Prop := codecTellsUptoRow.holds Try.pinned (OpenSpec.upto codecTellsSpec)

/-- 'quittancelaw26.CodecBack', WHERE WHAT IT READS IS OF BULK AT MOST 1048576: true; the input reads as it did. -/
def codecBackUptoRow : OpenClaim := { program := "ytopoljadcjeflaa", sum := "1f270e85e6584d990e0210500e792f05e3049882de0797e9be479487b7418048", func := "quittance/quittancelaw26.CodecBack", spec := "codecBack", unfollowed := true, recurses := true, apart := false, narrowed := true }
def CodecBackUptoSaid : Prop := codecBackUptoRow.holds Try.pinned (OpenSpec.upto codecBackSpec)

/-- 'quittancelaw26.CodecLong', WHERE WHAT IT READS IS OF BULK AT MOST 1048576: true; the input reads as it did. -/
def codecLongUptoRow : OpenClaim := { program := "ytopoljadcjeflaa", sum := "1f270e85e6584d990e0210500e792f05e3049882de0797e9be479487b7418048", func := "quittance/quittancelaw26.CodecLong", spec := "codecLong", unfollowed := true, recurses := true, apart := false, narrowed := true }
def CodecLongUptoSaid : Prop := codecLongUptoRow.holds Try.pinned (OpenSpec.upto codecLongSpec)

/-- 'quittancelaw19.OrderRefuses', WHERE WHAT IT READS IS OF BULK AT MOST 1048576: true; the input reads as it did. -/
def orderRefusesUptoRow : OpenClaim := { program := "ytopoljadcjeflaa", sum := "1f270e85e6584d990e0210500e792f05e3049882de0797e9be479487b7418048", func := "quittance/quittancelaw19.OrderRefuses", spec := "orderRefuses", inPlace := ["slices.overlaps[quittance/api.Event]"], unfollowed := true, recurses := true, apart := false, narrowed := true }
def OrderRefusesUptoSaid : Prop := orderRefusesUptoRow.holds Try.pinned (OpenSpec.upto orderRefusesSpec)

/-- 'quittancelaw19.OrderAny', WHERE WHAT IT READS IS OF BULK AT MOST 1048576: true; the input reads as it did. -/
def orderAnyUptoRow : OpenClaim := { program := "ytopoljadcjeflaa", sum := "1f270e85e6584d990e0210500e792f05e3049882de0797e9be479487b7418048", func := "quittance/quittancelaw19.OrderAny", spec := "orderAny", inPlace := ["slices.overlaps[quittance/api.Event]"], unfollowed := true, recurses := true, apart := false, narrowed := true }
def OrderAnyUptoSaid : Prop := orderAnyUptoRow.holds Try.pinned (OpenSpec.upto orderAnySpec)

/-- 'quittancelaw19.OrderStands', WHERE WHAT IT READS IS OF BULK AT MOST 1048576: true; the input reads as it did. -/
def orderStandsUptoRow : OpenClaim := { program := "ytopoljadcjeflaa", sum := "1f270e85e6584d990e0210500e792f05e3049882de0797e9be479487b7418048", func := "quittance/quittancelaw19.OrderStands", spec := "orderStands", inPlace := ["slices.overlaps[quittance/api.Event]"], unfollowed := true, recurses := true, apart := false, narrowed := true }
def OrderStandsUptoSaid : Prop := orderStandsUptoRow.holds Try.pinned (OpenSpec.upto orderStandsSpec)

/-- 'quittancelaw19.OrderPlays', WHERE WHAT IT READS IS OF BULK AT MOST 1048576: true; the input reads as it did. -/
def orderPlaysUptoRow : OpenClaim := { program := "ytopoljadcjeflaa", sum := "1f270e85e6584d990e0210500e792f05e3049882de0797e9be479487b7418048", func := "quittance/quittancelaw19.OrderPlays", spec := "orderPlays", inPlace := ["slices.overlaps[quittance/api.Event]", "maps.clone"], unfollowed := true, recurses := true, apart := false, narrowed := true }
def OrderPlaysUptoSaid : Prop := orderPlaysUptoRow.holds Try.pinned (OpenSpec.upto orderPlaysSpec)

/-- 'quittancelaw19.OrderNil', WHERE WHAT IT READS IS OF BULK AT MOST 1048576: true; the input reads as it did. -/
def orderNilUptoRow : OpenClaim := { program := "ytopoljadcjeflaa", sum := "1f270e85e6584d990e0210500e792f05e3049882de0797e9be479487b7418048", func := "quittance/quittancelaw19.OrderNil", spec := "orderNil", inPlace := ["slices.overlaps[quittance/api.Event]", "maps.clone"], unfollowed := true, recurses := true, apart := false, narrowed := true }
def OrderNilUptoSaid : Prop := orderNilUptoRow.holds Try.pinned (OpenSpec.upto orderNilSpec)

end Rows
end Go.Proofs.Ytopoljadcjeflaa
