/-
  No cell of these rows narrows 'for every input' (looked for: loops, veiled, ifaces, maps, wideKeys, modest, calm, conditions, laid).
  DERIVED. THE GIVEN ROWS OF THIS SEAT. 6 by the template 'for every input the law returns true; each argument reads behind the call as it read before'; 0 by the template 'total and deterministic' (their statements: YtdjbfmfkeokfaaaGreatTotals.lean).
  GIVEN WITH THE SEED: the statements are not yours to turn. If you find one false, say at which input.
  Laid BY PROGRAM, IN A SANDBOX (cutbox-rows.mjs): the forced cells as the released guide's own fill.sh prints them over the translation d2a5b29df63588dd… (all of the seat's roots in one cut). By AI agents, Wed Nov 11 2026. No macro, syntax, notation, axiom, sorry.
-/
import Derived.Test.YtdjbfmfkeokfaaaGreatChecked
import GoSem.Claim
import GoSem.ClaimJoined
import GoSem.ClaimMapViews
import Derived.JoinedTies
import Derived.KernelRfl
namespace Go.Proofs.YtdjbfmfkeokfaaaGreat
/- THE CELL 'sum', in the pinned program and in every row, IS THE sha256 OF THE DUMP (.gsa) THAT YtdjbfmfkeokfaaaGreatProg.lean LOADS. Nothing in Lean hashes anything: it is a label: what it is worth is what the hold of that sum in a sandbox is worth. -/
noncomputable def Tryz.pinned : Pinned := { name := "ytdjbfmfkeokfaaagreat", sum := "d2a5b29df63588dda84008fe16dc8971c50ce1f841fe7d90e2ca8de10c6fc3a3", checked := Tryz.checked }
namespace Rows
def none {H : Type} : Left H := { results := [], args := [] }

/-- 'quittancelaw09.GrammarTells': WHATEVER THE INPUT: true; the input reads as it did. -/
def grammarTellsSpec : ChangeSpec := { name := "grammarTells", fn := fun _ => fun
  | [d] => { results := [.lit (.bool true)], args := [d] }
  | _ => none }
def grammarTellsRow : OpenClaim := { program := "ytdjbfmfkeokfaaagreat", sum := "d2a5b29df63588dda84008fe16dc8971c50ce1f841fe7d90e2ca8de10c6fc3a3", func := "quittance/quittancelaw09.GrammarTells", spec := "grammarTells", inPlace := ["internal/bytealg.IndexByteString", "internal/bytealg.IndexString", "internal/abi.NoEscape", "internal/bytealg.MakeNoZero"], unfollowed := true, recurses := true, named := ["internal/bytealg.MaxLen"], apart := false }
def GrammarTellsSaid : Prop := grammarTellsRow.holds Tryz.pinned (OpenSpec.ofChange grammarTellsSpec)

/-- ITS FALSE NEIGHBOUR: 'it returns false'. Refute it at one input. -/
def grammarTellsWrong : ChangeSpec := { name := "grammarTells", fn := fun _ => fun
  | [d] => { results := [.lit (.bool false)], args := [d] }
  | _ => none }
def GrammarTellsWrongFalsely : Prop := grammarTellsRow.holds Tryz.pinned (OpenSpec.ofChange grammarTellsWrong)

/-- 'quittancelaw09.GrammarPlaces': WHATEVER THE INPUT: true; the input reads as it did. -/
def grammarPlacesSpec : ChangeSpec := { name := "grammarPlaces", fn := fun _ => fun
  | [d] => { results := [.lit (.bool true)], args := [d] }
  | _ => none }
def grammarPlacesRow : OpenClaim := { program := "ytdjbfmfkeokfaaagreat", sum := "d2a5b29df63588dda84008fe16dc8971c50ce1f841fe7d90e2ca8de10c6fc3a3", func := "quittance/quittancelaw09.GrammarPlaces", spec := "grammarPlaces", inPlace := ["internal/bytealg.IndexByteString", "internal/bytealg.IndexString", "internal/abi.NoEscape", "internal/bytealg.MakeNoZero"], unfollowed := true, recurses := true, named := ["internal/bytealg.MaxLen"], apart := false }
def GrammarPlacesSaid : Prop := grammarPlacesRow.holds Tryz.pinned (OpenSpec.ofChange grammarPlacesSpec)

/-- ITS FALSE NEIGHBOUR: 'it returns false'. Refute it at one input. -/
def grammarPlacesWrong : ChangeSpec := { name := "grammarPlaces", fn := fun _ => fun
  | [d] => { results := [.lit (.bool false)], args := [d] }
  | _ => none }
def GrammarPlacesWrongFalsely : Prop := grammarPlacesRow.holds Tryz.pinned (OpenSpec.ofChange grammarPlacesWrong)

/-- 'quittancelaw09.GrammarOrder': WHATEVER THE INPUT: true; the input reads as it did. -/
def grammarOrderSpec : ChangeSpec := { name := "grammarOrder", fn := fun _ => fun
  | [d1, d2] => { results := [.lit (.bool true)], args := [d1, d2] }
  | _ => none }
def grammarOrderRow : OpenClaim := { program := "ytdjbfmfkeokfaaagreat", sum := "d2a5b29df63588dda84008fe16dc8971c50ce1f841fe7d90e2ca8de10c6fc3a3", func := "quittance/quittancelaw09.GrammarOrder", spec := "grammarOrder", inPlace := ["internal/bytealg.IndexByteString", "internal/bytealg.IndexString", "internal/abi.NoEscape", "internal/bytealg.MakeNoZero"], unfollowed := true, recurses := true, named := ["internal/bytealg.MaxLen"], apart := false }
def GrammarOrderSaid : Prop := grammarOrderRow.holds Tryz.pinned (OpenSpec.ofChange grammarOrderSpec)

/-- ITS FALSE NEIGHBOUR: 'it returns false'. Refute it at one input. -/
def grammarOrderWrong : ChangeSpec := { name := "grammarOrder", fn := fun _ => fun
  | [d1, d2] => { results := [.lit (.bool false)], args := [d1, d2] }
  | _ => none }
def GrammarOrderWrongFalsely : Prop := grammarOrderRow.holds Tryz.pinned (OpenSpec.ofChange grammarOrderWrong)

/-- 'quittancelaw09.GrammarLess': WHATEVER THE INPUT: true; the input reads as it did. -/
def grammarLessSpec : ChangeSpec := { name := "grammarLess", fn := fun _ => fun
  | [d] => { results := [.lit (.bool true)], args := [d] }
  | _ => none }
def grammarLessRow : OpenClaim := { program := "ytdjbfmfkeokfaaagreat", sum := "d2a5b29df63588dda84008fe16dc8971c50ce1f841fe7d90e2ca8de10c6fc3a3", func := "quittance/quittancelaw09.GrammarLess", spec := "grammarLess", inPlace := ["internal/bytealg.IndexByteString", "internal/bytealg.IndexString", "internal/abi.NoEscape", "internal/bytealg.MakeNoZero"], unfollowed := true, recurses := true, named := ["internal/bytealg.MaxLen"], apart := false }
def GrammarLessSaid : Prop := grammarLessRow.holds Tryz.pinned (OpenSpec.ofChange grammarLessSpec)

/-- ITS FALSE NEIGHBOUR: 'it returns false'. Refute it at one input. -/
def grammarLessWrong : ChangeSpec := { name := "grammarLess", fn := fun _ => fun
  | [d] => { results := [.lit (.bool false)], args := [d] }
  | _ => none }
def GrammarLessWrongFalsely : Prop := grammarLessRow.holds Tryz.pinned (OpenSpec.ofChange grammarLessWrong)

/-- 'quittancelaw09.GrammarCut': WHATEVER THE INPUT: true; the input reads as it did. -/
def grammarCutSpec : ChangeSpec := { name := "grammarCut", fn := fun _ => fun
  | [d1, d2, d3] => { results := [.lit (.bool true)], args := [d1, d2, d3] }
  | _ => none }
def grammarCutRow : OpenClaim := { program := "ytdjbfmfkeokfaaagreat", sum := "d2a5b29df63588dda84008fe16dc8971c50ce1f841fe7d90e2ca8de10c6fc3a3", func := "quittance/quittancelaw09.GrammarCut", spec := "grammarCut", inPlace := ["internal/bytealg.IndexByteString", "internal/bytealg.IndexString", "internal/abi.NoEscape", "internal/bytealg.MakeNoZero"], unfollowed := true, recurses := true, named := ["internal/bytealg.MaxLen"], apart := false }
def GrammarCutSaid : Prop := grammarCutRow.holds Tryz.pinned (OpenSpec.ofChange grammarCutSpec)

/-- ITS FALSE NEIGHBOUR: 'it returns false'. Refute it at one input. -/
def grammarCutWrong : ChangeSpec := { name := "grammarCut", fn := fun _ => fun
  | [d1, d2, d3] => { results := [.lit (.bool false)], args := [d1, d2, d3] }
  | _ => none }
def GrammarCutWrongFalsely : Prop := grammarCutRow.holds Tryz.pinned (OpenSpec.ofChange grammarCutWrong)

/-- 'quittancelaw09.GrammarWithout': WHATEVER THE INPUT: true; the input reads as it did. -/
def grammarWithoutSpec : ChangeSpec := { name := "grammarWithout", fn := fun _ => fun
  | [d] => { results := [.lit (.bool true)], args := [d] }
  | _ => none }
def grammarWithoutRow : OpenClaim := { program := "ytdjbfmfkeokfaaagreat", sum := "d2a5b29df63588dda84008fe16dc8971c50ce1f841fe7d90e2ca8de10c6fc3a3", func := "quittance/quittancelaw09.GrammarWithout", spec := "grammarWithout", inPlace := ["internal/bytealg.IndexByteString", "internal/bytealg.IndexString", "internal/abi.NoEscape", "internal/bytealg.MakeNoZero"], unfollowed := true, recurses := true, named := ["internal/bytealg.MaxLen"], apart := false }
def GrammarWithoutSaid : Prop := grammarWithoutRow.holds Tryz.pinned (OpenSpec.ofChange grammarWithoutSpec)

/-- ITS FALSE NEIGHBOUR: 'it returns false'. Refute it at one input. -/
def grammarWithoutWrong : ChangeSpec := { name := "grammarWithout", fn := fun _ => fun
  | [d] => { results := [.lit (.bool false)], args := [d] }
  | _ => none }
def GrammarWithoutWrongFalsely : Prop := grammarWithoutRow.holds Tryz.pinned (OpenSpec.ofChange grammarWithoutWrong)

/- THE SECOND FORM. 'bulk': how many values and letters a reading holds, each counted each time it is reached (what is shared counts as often as it is met; a slice's spare places count too). A statement '..UptoSaid' is the law's where the arguments, and the package variables that the reading takes, are together of bulk at most 1048576: NARROWER than '..Said'. Prove '..Said' where nothing that the law and all that it calls make is longer than what came in: it says more and counts as full. Else prove '..UptoSaid'. A law counts once. -/
mutual
def uptoBulk {H : Type} : DataW H → Nat
  | .lit (.string bytes) => bytes.length + 1
  | .lit _ => 1
  | .nil => 1
  | .ptr d => uptoBulk d + 1
  | .slice elems spare => uptoBulkAll elems + uptoBulkAll spare + 1
  | .agg parts => uptoBulkAll parts + 1
  | .iface _ d => uptoBulk d + 1
  | .map entries => uptoBulkEntries entries + 1
  | .held _ => 1
def uptoBulkAll {H : Type} : List (DataW H) → Nat
  | [] => 0
  | d :: r => uptoBulk d + uptoBulkAll r
def uptoBulkEntries {H : Type} : List (Lit × DataW H) → Nat
  | [] => 0
  | x :: r => uptoBulkEntry x + uptoBulkEntries r
def uptoBulkEntry {H : Type} : Lit × DataW H → Nat
  | (.string bytes, d) => bytes.length + uptoBulk d + 1
  | (_, d) => uptoBulk d + 1
 end
def uptoSmall : (H : Type) → List (DataW H) → Bool := fun _ ds => decide (uptoBulkAll ds ≤ 1048576)
def OpenSpec.upto (s : _root_.Go.ChangeSpec) : _root_.Go.OpenSpec := { _root_.Go.OpenSpec.ofChange s with cond := some uptoSmall }

/-- 'quittancelaw09.GrammarTells', WHERE WHAT IT READS IS OF BULK AT MOST 1048576: true; the input reads as it did. -/
def grammarTellsUptoRow : OpenClaim := { program := "ytdjbfmfkeokfaaagreat", sum := "d2a5b29df63588dda84008fe16dc8971c50ce1f841fe7d90e2ca8de10c6fc3a3", func := "quittance/quittancelaw09.GrammarTells", spec := "grammarTells", inPlace := ["internal/bytealg.IndexByteString", "internal/bytealg.IndexString", "internal/abi.NoEscape", "internal/bytealg.MakeNoZero"], unfollowed := true, recurses := true, named := ["internal/bytealg.MaxLen"], apart := false, narrowed := true }
def GrammarTellsUptoSaid : Prop := grammarTellsUptoRow.holds Tryz.pinned (OpenSpec.upto grammarTellsSpec)

/-- 'quittancelaw09.GrammarPlaces', WHERE WHAT IT READS IS OF BULK AT MOST 1048576: true; the input reads as it did. -/
def grammarPlacesUptoRow : OpenClaim := { program := "ytdjbfmfkeokfaaagreat", sum := "d2a5b29df63588dda84008fe16dc8971c50ce1f841fe7d90e2ca8de10c6fc3a3", func := "quittance/quittancelaw09.GrammarPlaces", spec := "grammarPlaces", inPlace := ["internal/bytealg.IndexByteString", "internal/bytealg.IndexString", "internal/abi.NoEscape", "internal/bytealg.MakeNoZero"], unfollowed := true, recurses := true, named := ["internal/bytealg.MaxLen"], apart := false, narrowed := true }
def GrammarPlacesUptoSaid : Prop := grammarPlacesUptoRow.holds Tryz.pinned (OpenSpec.upto grammarPlacesSpec)

/-- 'quittancelaw09.GrammarOrder', WHERE WHAT IT READS IS OF BULK AT MOST 1048576: true; the input reads as it did. -/
def grammarOrderUptoRow : OpenClaim := { program := "ytdjbfmfkeokfaaagreat", sum := "d2a5b29df63588dda84008fe16dc8971c50ce1f841fe7d90e2ca8de10c6fc3a3", func := "quittance/quittancelaw09.GrammarOrder", spec := "grammarOrder", inPlace := ["internal/bytealg.IndexByteString", "internal/bytealg.IndexString", "internal/abi.NoEscape", "internal/bytealg.MakeNoZero"], unfollowed := true, recurses := true, named := ["internal/bytealg.MaxLen"], apart := false, narrowed := true }
def GrammarOrderUptoSaid : Prop := grammarOrderUptoRow.holds Tryz.pinned (OpenSpec.upto grammarOrderSpec)

/-- 'quittancelaw09.GrammarLess', WHERE WHAT IT READS IS OF BULK AT MOST 1048576: true; the input reads as it did. -/
def grammarLessUptoRow : OpenClaim := { program := "ytdjbfmfkeokfaaagreat", sum := "d2a5b29df63588dda84008fe16dc8971c50ce1f841fe7d90e2ca8de10c6fc3a3", func := "quittance/quittancelaw09.GrammarLess", spec := "grammarLess", inPlace := ["internal/bytealg.IndexByteString", "internal/bytealg.IndexString", "internal/abi.NoEscape", "internal/bytealg.MakeNoZero"], unfollowed := true, recurses := true, named := ["internal/bytealg.MaxLen"], apart := false, narrowed := true }
def GrammarLessUptoSaid : Prop := grammarLessUptoRow.holds Tryz.pinned (OpenSpec.upto grammarLessSpec)

/-- 'quittancelaw09.GrammarCut', WHERE WHAT IT READS IS OF BULK AT MOST 1048576: true; the input reads as it did. -/
def grammarCutUptoRow : OpenClaim := { program := "ytdjbfmfkeokfaaagreat", sum := "d2a5b29df63588dda84008fe16dc8971c50ce1f841fe7d90e2ca8de10c6fc3a3", func := "quittance/quittancelaw09.GrammarCut", spec := "grammarCut", inPlace := ["internal/bytealg.IndexByteString", "internal/bytealg.IndexString", "internal/abi.NoEscape", "internal/bytealg.MakeNoZero"], unfollowed := true, recurses := true, named := ["internal/bytealg.MaxLen"], apart := false, narrowed := true }
def GrammarCutUptoSaid : Prop := grammarCutUptoRow.holds Tryz.pinned (OpenSpec.upto grammarCutSpec)

/-- 'quittancelaw09.GrammarWithout', WHERE WHAT IT READS IS OF BULK AT MOST 1048576: true; the input reads as it did. -/
def grammarWithoutUptoRow : OpenClaim := { program := "ytdjbfmfkeokfaaagreat", sum := "d2a5b29df63588dda84008fe16dc8971c50ce1f841fe7d90e2ca8de10c6fc3a3", func := "quittance/quittancelaw09.GrammarWithout", spec := "grammarWithout", inPlace := ["internal/bytealg.IndexByteString", "internal/bytealg.IndexString", "internal/abi.NoEscape", "internal/bytealg.MakeNoZero"], unfollowed := true, recurses := true, named := ["internal/bytealg.MaxLen"], apart := false, narrowed := true }
def GrammarWithoutUptoSaid : Prop := grammarWithoutUptoRow.holds Tryz.pinned (OpenSpec.upto grammarWithoutSpec)

end Rows
end Go.Proofs.YtdjbfmfkeokfaaaGreat
