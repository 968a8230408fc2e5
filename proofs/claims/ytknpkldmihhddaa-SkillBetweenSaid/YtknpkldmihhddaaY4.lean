/- The row of SkillBetween. -/
import Derived.Test.YtknpkldmihhddaaRows
import Derived.Test.YtknpkldmihhddaaL7
import Derived.Test.YtknpkldmihhddaaO2
import Derived.WalkKit
import Derived.ProofKit
import Derived.OpenShut
import Derived.ChangeOld
import Derived.Below
import Derived.SizedLaws
namespace Go.Proofs.Ytknpkldmihhddaa.skillBetween
open Go.ChangeShapes Go.WideShapes Go.ChangeAt Go.RowKit
set_option linter.unusedVariables false
theorem own : ownKnob Try.prog.godebug = none := by kernel_rfl
theorem laidOut : laidOutB Try.prog = true := by kernel_rfl
set_option maxRecDepth 100000 in
theorem lifted (os : Os) (started : os.Started) (H : Type) (enc : TypeId × Value → H) :
    ReturnsInHanded {} Try.checked os 4 .any (Rows.skillBetweenSpec.pre6 enc Try.prog Try.f4 Rows.skillBetweenRow.domain false) (Rows.skillBetweenSpec.post enc Try.prog Try.f4 false true false false) := by
  refine returnsInHanded_of_change_sized (C := Try.checked) own started (by kernel_rfl) Try.func4
    (ChangeSpec.witness6 (enc := enc) (C := Try.checked) false ⟨#[], #[.slice none 0 0, .slice none 0 0, .slice none 0 0, .int .u8 0, .slice none 0 0], []⟩ 8 (by kernel_rfl) (by kernel_rfl) (by kernel_rfl) (by kernel_rfl)) ?_
  intro W base args ds gs before hval0 hW hcnd hsz0 _
  have hval : ∀ (j : Nat) t v, Try.f4.params[j]? = some t → args[j]? = some v → Value.okWide Try.prog W .any base t v := hval0
  have hW' := hW
  obtain ⟨p, q, hA0, hV, rfl, hfz, hnd⟩ := hW
  have hA : DataW.TrodAll enc Try.prog W 0 (fun _ => true) true Try.f4.params.toList args.toList ds p := hA0
  rw [Try.params4] at hA hval
  obtain ⟨v0, vs0, d0, ds0, p0, q0, hargs, rfl, rfl, h0, r0⟩ := trodAll_cons hA
  obtain ⟨v1, vs1, d1, ds1, p1, q1, rfl, rfl, rfl, h1, r1⟩ := trodAll_cons r0
  obtain ⟨v2, vs2, d2, ds2, p2, q2, rfl, rfl, rfl, h2, r2⟩ := trodAll_cons r1
  obtain ⟨v3, vs3, d3, ds3, p3, q3, rfl, rfl, rfl, h3, r3⟩ := trodAll_cons r2
  obtain ⟨v4, vs4, d4, ds4, p4, q4, rfl, rfl, rfl, h4, r4⟩ := trodAll_cons r3
  obtain ⟨rfl, rfl, rfl⟩ := trodAll_nil r4
  obtain rfl : args = #[v0, v1, v2, v3, v4] := by cases args; simp_all
  obtain ⟨rfl, rfl⟩ := trodVars_none hV
  have k0 := h0
  have lt0 : ∀ x ∈ p0, x.block < W.heap.size := by obtain ⟨m, hm⟩ := k0; exact DataW.trod_lt m _ _ _ hm
  obtain ⟨A0, N0, c0, rfl, le0, l0, hl0, ha0, hw0⟩ := row_arg Try.underlying41 Try.underlying3 (by kernel_rfl) (hval 0 41 v0 rfl rfl) h0
  have k1 := h1
  have lt1 : ∀ x ∈ p1, x.block < W.heap.size := by obtain ⟨m, hm⟩ := k1; exact DataW.trod_lt m _ _ _ hm
  obtain ⟨A1, N1, c1, rfl, le1, l1, hl1, ha1, hw1⟩ := row_arg Try.underlying41 Try.underlying3 (by kernel_rfl) (hval 1 41 v1 rfl rfl) h1
  have k2 := h2
  have lt2 : ∀ x ∈ p2, x.block < W.heap.size := by obtain ⟨m, hm⟩ := k2; exact DataW.trod_lt m _ _ _ hm
  obtain ⟨A2, N2, c2, rfl, le2, l2, hl2, ha2, hw2⟩ := row_arg Try.underlying42 Try.underlying22 (by kernel_rfl) (hval 2 42 v2 rfl rfl) h2
  have k4 := h4
  have lt4 : ∀ x ∈ p4, x.block < W.heap.size := by obtain ⟨m, hm⟩ := k4; exact DataW.trod_lt m _ _ _ hm
  obtain ⟨A4, N4, c4, rfl, le4, l4, hl4, ha4, hw4⟩ := row_arg Try.underlying43 Try.underlying5 (by kernel_rfl) (hval 4 43 v4 rfl rfl) h4
  obtain ⟨ti, rfl, rfl, rfl, w3⟩ := open_int Try.underlying5 (hval 3 5 v3 rfl rfl) h3
  clear hA0 hval0 hsz0
  have walk : Calls Try.prog 4 #[.slice A0 N0 c0, .slice A1 N1 c1, .slice A2 N2 c2, .int .u8 ti, .slice A4 N4 c4] W fun e W' => e = .returned (.bool true) ∧ Below W.heap.size W W' := by
    have ht : 0 ≤ ti ∧ ti ≤ 255 := by simpa [Lit.wf, IntKind.min, IntKind.max, IntKind.signed, IntKind.bits] using w3
    by_cases h : 60 < N0 ∨ 60 < N1 ∨ 60 < N2 ∨ 200 < N4
    · exact SkillBetween_long A0 A1 A2 A4 N0 N1 N2 N4 c0 c1 c2 c4 ti W ht.1 ht.2 h
    · subst hl0 hl1 hl2 hl4
      have hst : ∀ i, 0 ≤ l4.getD i 0 ∧ l4.getD i 0 ≤ 255 := fun i => by
        by_cases hi : i < l4.length
        · have := hw4 l4[i] (List.getElem_mem hi)
          simp [hi]
          simpa [Lit.wf, IntKind.min, IntKind.max, IntKind.signed, IntKind.bits] using this
        · simp [hi]
      exact SkillBetween_c A0 A1 A2 A4 c0 c1 c2 c4 l0 l1 l2 l4 ti W ha0 ha1 ha2 ha4 (by omega) (by omega) (by omega) (by omega) hst ht.1 ht.2
  refine walk.mono fun e W' ⟨he, bel⟩ => ?_
  subst he
  exact ⟨_, rfl, _, _, _, [], _, [], hW', trodAll_mk1 (shut_bool Try.underlying4 _),
    (trodAll_cons_mk (Below.trod laidOut (by kernel_rfl) (of_decide_eq_true (by kernel_rfl)) k0 bel lt0) (trodAll_cons_mk (Below.trod laidOut (by kernel_rfl) (of_decide_eq_true (by kernel_rfl)) k1 bel lt1)
      (trodAll_cons_mk (Below.trod laidOut (by kernel_rfl) (of_decide_eq_true (by kernel_rfl)) k2 bel lt2) (trodAll_cons_mk (shut_int Try.underlying5 w3) (trodAll_cons_mk (Below.trod laidOut (by kernel_rfl) (of_decide_eq_true (by kernel_rfl)) k4 bel lt4) trodAll_mk0))))),
    rfl, bel.frame _, fun h => by cases h⟩
theorem over : Rows.skillBetweenRow.holds Try.pinned (OpenSpec.ofChange Rows.skillBetweenSpec) :=
  OpenClaim.holds_of_wide 4 Try.f4 rfl rfl rfl rfl rfl rfl rfl ⟨rfl, rfl, rfl, rfl, rfl⟩ rfl rfl rfl rfl rfl (by kernel_rfl) Try.func4 (by kernel_rfl)
    (of_decide_eq_true (by kernel_rfl)) (by unfold Func.isWrapper; first | (rw [if_pos (by decide +kernel)]; kernel_rfl) | (rw [if_neg (by decide +kernel)]; exact ⟨rfl, rfl⟩))
    (fun os started H enc _ => lifted os started H enc)
theorem proved : Rows.SkillBetweenSaid := over
#print axioms proved
end Go.Proofs.Ytknpkldmihhddaa.skillBetween
namespace Go.Proofs.Ytknpkldmihhddaa
/-- The row, under a short name, for the claim. -/
theorem skillBetween_holds : Rows.SkillBetweenSaid := skillBetween.proved
end Go.Proofs.Ytknpkldmihhddaa
