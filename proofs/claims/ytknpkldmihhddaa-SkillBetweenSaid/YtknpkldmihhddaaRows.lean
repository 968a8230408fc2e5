/-
  No cell of these rows narrows 'for every input' (looked for: loops, veiled, ifaces, maps, wideKeys, modest, calm, conditions, laid).
  DERIVED. THE GIVEN ROWS OF THIS SEAT. 4 by the template 'for every input the law returns true; each argument reads behind the call as it read before'; 0 by the template 'total and deterministic' (their statements: YtknpkldmihhddaaTotals.lean).
  GIVEN WITH THE SEED: the statements are not yours to turn. If you find one false, say at which input.
  Laid BY PROGRAM, IN A SANDBOX (cutbox-rows.mjs): the forced cells as the released guide's own fill.sh prints them over the translation cc25da25ab865f49… (all of the seat's roots in one cut). By AI agents, Wed Nov 11 2026. No macro, syntax, notation, axiom, sorry.
-/
import Derived.Test.YtknpkldmihhddaaChecked
import GoSem.Claim
import GoSem.ClaimJoined
import GoSem.ClaimMapViews
import Derived.JoinedTies
import Derived.KernelRfl
namespace Go.Proofs.Ytknpkldmihhddaa
/- THE CELL 'sum', in the pinned program and in every row, IS THE sha256 OF THE DUMP (.gsa) THAT YtknpkldmihhddaaProg.lean LOADS. Nothing in Lean hashes anything: it is a label: what it is worth is what the hold of that sum in a sandbox is worth. -/
noncomputable def Try.pinned : Pinned := { name := "ytknpkldmihhddaa", sum := "cc25da25ab865f4917d3d61acf7e5eb759b199ae92c68c55edc3befe5e640607", checked := Try.checked }
namespace Rows
def none {H : Type} : Left H := { results := [], args := [] }

/-- 'besomlaw10.SkillThrows': WHATEVER THE INPUT: true; the input reads as it did. -/
def skillThrowsSpec : ChangeSpec := { name := "skillThrows", fn := fun _ => fun
  | [d1, d2] => { results := [.lit (.bool true)], args := [d1, d2] }
  | _ => none }
def skillThrowsRow : OpenClaim := { program := "ytknpkldmihhddaa", sum := "cc25da25ab865f4917d3d61acf7e5eb759b199ae92c68c55edc3befe5e640607", func := "besom/besomlaw10.SkillThrows", spec := "skillThrows", inPlace := ["math/bits.Add64"], unfollowed := true, recurses := true, named := ["math/bits.divideError", "math/bits.overflowError"], plainKeys := false, apart := false }
def SkillThrowsSaid : Prop := skillThrowsRow.holds Try.pinned (OpenSpec.ofChange skillThrowsSpec)

/-- ITS FALSE NEIGHBOUR: 'it returns false'. Refute it at one input. -/
def skillThrowsWrong : ChangeSpec := { name := "skillThrows", fn := fun _ => fun
  | [d1, d2] => { results := [.lit (.bool false)], args := [d1, d2] }
  | _ => none }
def SkillThrowsWrongFalsely : Prop := skillThrowsRow.holds Try.pinned (OpenSpec.ofChange skillThrowsWrong)

/-- 'besomlaw10.SkillBetween': WHATEVER THE INPUT: true; the input reads as it did. -/
def skillBetweenSpec : ChangeSpec := { name := "skillBetween", fn := fun _ => fun
  | [d1, d2, d3, d4, d5] => { results := [.lit (.bool true)], args := [d1, d2, d3, d4, d5] }
  | _ => none }
def skillBetweenRow : OpenClaim := { program := "ytknpkldmihhddaa", sum := "cc25da25ab865f4917d3d61acf7e5eb759b199ae92c68c55edc3befe5e640607", func := "besom/besomlaw10.SkillBetween", spec := "skillBetween", inPlace := ["math/bits.Add64"], unfollowed := true, recurses := true, named := ["math/bits.divideError", "math/bits.overflowError"], plainKeys := false, apart := false }
def SkillBetweenSaid : Prop := skillBetweenRow.holds Try.pinned (OpenSpec.ofChange skillBetweenSpec)

/-- ITS FALSE NEIGHBOUR: 'it returns false'. Refute it at one input. -/
def skillBetweenWrong : ChangeSpec := { name := "skillBetween", fn := fun _ => fun
  | [d1, d2, d3, d4, d5] => { results := [.lit (.bool false)], args := [d1, d2, d3, d4, d5] }
  | _ => none }
def SkillBetweenWrongFalsely : Prop := skillBetweenRow.holds Try.pinned (OpenSpec.ofChange skillBetweenWrong)

/-- 'besomlaw10.SkillGrows': WHATEVER THE INPUT: true; the input reads as it did. -/
def skillGrowsSpec : ChangeSpec := { name := "skillGrows", fn := fun _ => fun
  | [d1, d2, d3, d4, d5, d6] => { results := [.lit (.bool true)], args := [d1, d2, d3, d4, d5, d6] }
  | _ => none }
def skillGrowsRow : OpenClaim := { program := "ytknpkldmihhddaa", sum := "cc25da25ab865f4917d3d61acf7e5eb759b199ae92c68c55edc3befe5e640607", func := "besom/besomlaw10.SkillGrows", spec := "skillGrows", inPlace := ["math/bits.Add64"], unfollowed := true, recurses := true, named := ["math/bits.divideError", "math/bits.overflowError"], plainKeys := false, apart := false }
def SkillGrowsSaid : Prop := skillGrowsRow.holds Try.pinned (OpenSpec.ofChange skillGrowsSpec)

/-- ITS FALSE NEIGHBOUR: 'it returns false'. Refute it at one input. -/
def skillGrowsWrong : ChangeSpec := { name := "skillGrows", fn := fun _ => fun
  | [d1, d2, d3, d4, d5, d6] => { results := [.lit (.bool false)], args := [d1, d2, d3, d4, d5, d6] }
  | _ => none }
def SkillGrowsWrongFalsely : Prop := skillGrowsRow.holds Try.pinned (OpenSpec.ofChange skillGrowsWrong)

/-- 'besomlaw10.SkillChances': WHATEVER THE INPUT: true; the input reads as it did. -/
def skillChancesSpec : ChangeSpec := { name := "skillChances", fn := fun _ => fun
  | [d1, d2, d3, d4, d5] => { results := [.lit (.bool true)], args := [d1, d2, d3, d4, d5] }
  | _ => none }
def skillChancesRow : OpenClaim := { program := "ytknpkldmihhddaa", sum := "cc25da25ab865f4917d3d61acf7e5eb759b199ae92c68c55edc3befe5e640607", func := "besom/besomlaw10.SkillChances", spec := "skillChances", inPlace := ["math/bits.Add64"], unfollowed := true, recurses := true, named := ["math/bits.divideError", "math/bits.overflowError"], plainKeys := false, apart := false }
def SkillChancesSaid : Prop := skillChancesRow.holds Try.pinned (OpenSpec.ofChange skillChancesSpec)

/-- ITS FALSE NEIGHBOUR: 'it returns false'. Refute it at one input. -/
def skillChancesWrong : ChangeSpec := { name := "skillChances", fn := fun _ => fun
  | [d1, d2, d3, d4, d5] => { results := [.lit (.bool false)], args := [d1, d2, d3, d4, d5] }
  | _ => none }
def SkillChancesWrongFalsely : Prop := skillChancesRow.holds Try.pinned (OpenSpec.ofChange skillChancesWrong)

/- THE SECOND FORM. 'bulk': how many values and letters a reading holds, each counted each time it is reached (what is shared counts as often as it is met; a slice's spare places count too). A statement '..UptoSaid' is the law's where the arguments, and the package variables that the reading takes, are together of bulk at most 1048576: NARROWER than '..Said'. Prove '..Said' where nothing that the law and all that it calls make is longer than what came in: it says more and counts as full. Else prove '..UptoSaid'. A law counts once. -/
mutual
def uptoBulk {H : Type} : DataW H → Nat
  | .lit (.string bytes) => bytes.length + 1
  | .lit _ => 1
  | .nil => 1
  | .ptr d => uptoBulk d + 1
  | .slice elems spare => uptoBulkAll elems + uptoBulkAll spare + 1
  | .agg parts => uptoBulkAll parts + 1
  | .iface _ d => uptoBulk d + 1
  | .map entries => uptoBulkEntries entries + 1
  | .held _ => 1
def uptoBulkAll {H : Type} : List (DataW H) → Nat
  | [] => 0
  | d :: r => uptoBulk d + uptoBulkAll r
def uptoBulkEntries {H : Type} : List (Lit × DataW H) → Nat
  | [] => 0
  | x :: r => uptoBulkEntry x + uptoBulkEntries r
def uptoBulkEntry {H : Type} : Lit × DataW H → Nat
  | (.string bytes, d) => bytes.length + uptoBulk d + 1
  | (_, d) => uptoBulk d + 1
 end
def uptoSmall : (H : Type) → List (DataW H) → Bool := fun _ ds => decide (uptoBulkAll ds ≤ 1048576)
def OpenSpec.upto (s : _root_.Go.ChangeSpec) : _root_.Go.OpenSpec := { _root_.Go.OpenSpec.ofChange s with cond := some uptoSmall }

/-- 'besomlaw10.SkillThrows', WHERE WHAT IT READS IS OF BULK AT MOST 1048576: true; the input reads as it did. -/
def skillThrowsUptoRow : OpenClaim := { program := "ytknpkldmihhddaa", sum := "cc25da25ab865f4917d3d61acf7e5eb759b199ae92c68c55edc3befe5e640607", func := "besom/besomlaw10.SkillThrows", spec := "skillThrows", inPlace := ["math/bits.Add64"], unfollowed := true, recurses := true, named := ["math/bits.divideError", "math/bits.overflowError"], plainKeys := false, apart := false, narrowed := true }
def SkillThrowsUptoSaid : Prop := skillThrowsUptoRow.holds Try.pinned (OpenSpec.upto skillThrowsSpec)

/-- 'besomlaw10.SkillBetween', WHERE WHAT IT READS IS OF BULK AT MOST 1048576: true; the input reads as it did. -/
def skillBetweenUptoRow : OpenClaim := { program := "ytknpkldmihhddaa", sum := "cc25da25ab865f4917d3d61acf7e5eb759b199ae92c68c55edc3befe5e640607", func := "besom/besomlaw10.SkillBetween", spec := "skillBetween", inPlace := ["math/bits.Add64"], unfollowed := true, recurses := true, named := ["math/bits.divideError", "math/bits.overflowError"], plainKeys := false, apart := false, narrowed := true }
def SkillBetweenUptoSaid : Prop := skillBetweenUptoRow.holds Try.pinned (OpenSpec.upto skillBetweenSpec)

/-- 'besomlaw10.SkillGrows', WHERE WHAT IT READS IS OF BULK AT MOST 1048576: true; the input reads as it did. -/
def skillGrowsUptoRow : OpenClaim := { program := "ytknpkldmihhddaa", sum := "cc25da25ab865f4917d3d61acf7e5eb759b199ae92c68c55edc3befe5e640607", func := "besom/besomlaw10.SkillGrows", spec := "skillGrows", inPlace := ["math/bits.Add64"], unfollowed := true, recurses := true, named := ["math/bits.divideError", "math/bits.overflowError"], plainKeys := false, apart := false, narrowed := true }
def SkillGrowsUptoSaid : Prop := skillGrowsUptoRow.holds Try.pinned (OpenSpec.upto skillGrowsSpec)

/-- 'besomlaw10.SkillChances', WHERE WHAT IT READS IS OF BULK AT MOST 1048576: true; the input reads as it did. -/
def skillChancesUptoRow : OpenClaim := { program := "ytknpkldmihhddaa", sum := "cc25da25ab865f4917d3d61acf7e5eb759b199ae92c68c55edc3befe5e640607", func := "besom/besomlaw10.SkillChances", spec := "skillChances", inPlace := ["math/bits.Add64"], unfollowed := true, recurses := true, named := ["math/bits.divideError", "math/bits.overflowError"], plainKeys := false, apart := false, narrowed := true }
def SkillChancesUptoSaid : Prop := skillChancesUptoRow.holds Try.pinned (OpenSpec.upto skillChancesSpec)

end Rows
end Go.Proofs.Ytknpkldmihhddaa
