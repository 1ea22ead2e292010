/- Part Wh of the proof: LB. -/
import Derived.Test.YtplcolaagnpccaaDoorRows
import Derived.Test.YtplcolaagnpccaaDoorTie
import Derived.Test.YtplcolaagnpccaaDoorCards
import Derived.Test.YtplcolaagnpccaaDoorWg
import Derived.Test.YtplcolaagnpccaaDoorWe
import Derived.Lib.LaidTab
import Derived.LaidLaws
import Derived.LaidHandle
import Derived.SevenTiedAt
namespace Go.Proofs.YtplcolaagnpccaaDoor.LB
open Go Go.Proofs VL
set_option linter.unusedVariables false
set_option linter.unusedSimpArgs false

theorem i64_wf {n : Int} (h : (Lit.int .i64 n).wf = true) : B10.I64 n := by
  simp only [Lit.wf, Bool.and_eq_true, decide_eq_true_eq] at h
  have h1 : IntKind.min .i64 = -9223372036854775808 := by decide
  have h2 : IntKind.max .i64 = 9223372036854775807 := by decide
  unfold B10.I64
  omega

theorem own : ownKnob Tryd.prog.godebug = none := by kernel_rfl
theorem laidOut : laidOutB Tryd.prog = true := by kernel_rfl

/-- a table's cells -/
def cellsT : DataW Unit → List Value
  | .agg l => l.flatMap fun
    | .lit (.int k n) => [.int k n]
    | .agg m => m.flatMap fun
      | .lit (.int k n) => [.int k n]
      | _ => []
    | _ => []
  | _ => []

def layAt (w : World) (g : Nat) (cs : List Value) : World :=
  { w with heap := w.heap.modify g fun
      | .cells _ t fz => .cells cs.toArray t fz
      | o => o }

noncomputable def layAll : List (String × DataW Unit) → World → World
  | [], w => w
  | (n, d) :: r, w => match Tryd.prog.globalNamed n with
    | some g => layAll r (layAt w g (cellsT d))
    | none => layAll r w

/-- a world in which the tables are laid -/
noncomputable def laidWorld (os : Os) (l : List (String × DataW Unit)) : World := layAll l (World.holding Tryd.prog os ⟨#[], #[], []⟩)

theorem reads {P : Program} {w : World} : ∀ {l : List (String × DataW Unit)} {ps : List MemPlace}, DataW.LaidVars P w l ps → ∀ n d, (n, d) ∈ l →
    ∃ g t cs fuel p, P.globalNamed n = some g ∧ (P.globals[g]?).map (·.type) = some t ∧ w.var? P n = some cs ∧ DataW.trod (fun _ => ()) P w 0 (fun _ => true) false fuel t cs.toList = some (d, p)
  | [], _, _, _, _, hm => by cases hm
  | (n', d') :: r, ps, h, n, d, hm => by
    obtain ⟨g, t, cs, fuel, p, q, h1, h2, h3, h4, h5, _⟩ := h
    rcases List.mem_cons.1 hm with e | e
    · cases e
      exact ⟨g, t, cs, fuel, p, h1, h2, h3, h4⟩
    · exact reads h5 n d e

def pows : List Int := [1, 10, 100, 1000, 10000, 100000, 1000000, 10000000, 100000000, 1000000000, 10000000000, 100000000000, 1000000000000, 10000000000000, 100000000000000, 1000000000000000, 10000000000000000, 100000000000000000, 1000000000000000000, 10000000000000000000]

/-- what the row's condition gives a walk: the table's cells -/
theorem globs {W : World} {l : List (String × DataW Unit)} (hm : ("internal/strconv.uint64pow10", Rows.laid_internal_strconv_uint64pow10) ∈ l) (h : laidMet Tryd.prog l W) :
    ∀ b l, glob b = some l → ∀ (k : Nat) v, l[k]? = some v → W.cell? ⟨b, k, none⟩ = some v := by
  obtain ⟨ps, hv, _⟩ := h
  obtain ⟨g, t, cs, fuel, p, h1, h2, h3, h4⟩ := reads hv _ _ hm
  have hg : Tryd.prog.globalNamed "internal/strconv.uint64pow10" = some 1 := by kernel_rfl
  obtain rfl := Option.some.inj (hg.symm.trans h1)
  have ht : (Tryd.prog.globals[1]?).map (·.type) = some 141 := by kernel_rfl
  obtain rfl := Option.some.inj (ht.symm.trans h2)
  have hc := Go.Lib.cells_of_tab (e := 32) (n := 20) (k := .u64) (zs := pows) (by kernel_rfl) (by kernel_rfl) (by kernel_rfl) (by kernel_rfl) h4
  have ht : Go.Lib.TabIs Tryd.prog W "internal/strconv.uint64pow10" .u64 pows := by
    unfold Go.Lib.TabIs; rw [h3, ← hc]
  intro b l hb k v hk
  unfold glob at hb
  split at hb
  · cases hb
    have hlen : k < 20 := (List.getElem?_eq_some_iff.1 hk).1
    rw [ht.cell hg k hlen]
    have e : ∀ (q : List Value), q = pows.map (Value.int .u64) → q[k]? = some v → some (Value.int .u64 (pows.getD k 0)) = some v := fun q e h => by
      subst e
      rw [List.getElem?_map] at h
      obtain ⟨z, hz, rfl⟩ := Option.map_eq_some_iff.1 h
      rw [List.getD_eq_getElem?_getD, hz]; rfl
    exact e _ rfl hk
  · cases hb
end Go.Proofs.YtplcolaagnpccaaDoor.LB
