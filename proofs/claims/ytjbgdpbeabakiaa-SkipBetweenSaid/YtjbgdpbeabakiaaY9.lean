/- The row of SkipBetween. -/
import Derived.Test.YtjbgdpbeabakiaaRows
import Derived.Test.YtjbgdpbeabakiaaKE
import Derived.Test.YtjbgdpbeabakiaaO3
import Derived.Test.YtjbgdpbeabakiaaKY
import Derived.WalkKit
import Derived.ProofKit
import Derived.OpenShut
import Derived.ChangeOld
import Derived.Below
import Derived.SizedLaws
namespace Go.Proofs.Ytjbgdpbeabakiaa.skipBetween
open Go.ChangeShapes Go.WideShapes Go.ChangeAt Go.RowKit
set_option linter.unusedVariables false
theorem own : ownKnob Try.prog.godebug = none := by kernel_rfl
theorem laidOut : laidOutB Try.prog = true := by kernel_rfl
theorem blank_ok : BlankOk := fun A0 A1 c0 c1 m n l h w ha => Blank_c A0 A1 c0 c1 m n l h w ha
set_option maxRecDepth 100000 in
theorem lifted (os : Os) (started : os.Started) (H : Type) (enc : TypeId × Value → H) :
    ReturnsInHanded {} Try.checked os 4 .any (Rows.skipBetweenSpec.pre6 enc Try.prog Try.f4 Rows.skipBetweenRow.domain false) (Rows.skipBetweenSpec.post enc Try.prog Try.f4 false true false false) := by
  refine returnsInHanded_of_change_sized (C := Try.checked) own started (by kernel_rfl) Try.func4
    (ChangeSpec.witness6 (enc := enc) (C := Try.checked) false ⟨#[], #[.agg #[.int .i64 0, .slice none 0 0, .slice none 0 0], .agg #[.int .i64 0, .int .i64 0, .int .i64 0], .slice none 0 0], []⟩ 8 (by kernel_rfl) (by kernel_rfl) (by kernel_rfl) (by kernel_rfl)) ?_
  intro W base args ds gs before hval0 hW hcnd hsz0 _
  have hval : ∀ (j : Nat) t v, Try.f4.params[j]? = some t → args[j]? = some v → Value.okWide Try.prog W .any base t v := hval0
  have hW' := hW
  obtain ⟨p, q, hA0, hV, rfl, hfz, hnd⟩ := hW
  have hA : DataW.TrodAll enc Try.prog W 0 (fun _ => true) true Try.f4.params.toList args.toList ds p := hA0
  rw [Try.params4] at hA hval
  obtain ⟨v0, vs0, d0, ds0, p0, q0, hargs, rfl, rfl, h0, r0⟩ := trodAll_cons hA
  obtain ⟨v1, vs1, d1, ds1, p1, q1, rfl, rfl, rfl, h1, r1⟩ := trodAll_cons r0
  obtain ⟨v2, vs2, d2, ds2, p2, q2, rfl, rfl, rfl, h2, r2⟩ := trodAll_cons r1
  obtain ⟨rfl, rfl, rfl⟩ := trodAll_nil r2
  obtain rfl : args = #[v0, v1, v2] := by cases args; simp_all
  obtain ⟨rfl, rfl⟩ := trodVars_none hV
  have k0 := h0
  have lt0 : ∀ x ∈ p0, x.block < W.heap.size := by obtain ⟨m, hm⟩ := k0; exact DataW.trod_lt m _ _ _ hm
  have k1 := h1
  have lt1 : ∀ x ∈ p1, x.block < W.heap.size := by obtain ⟨m, hm⟩ := k1; exact DataW.trod_lt m _ _ _ hm
  have k2 := h2
  have lt2 : ∀ x ∈ p2, x.block < W.heap.size := by obtain ⟨m, hm⟩ := k2; exact DataW.trod_lt m _ _ _ hm
  obtain ⟨A0, A1, c0, c1, m, rfl, hc⟩ := rivals_arg (hval 0 25 v0 rfl rfl) h0
  obtain ⟨n, l, h, rfl⟩ := state_arg (hval 1 27 v1 rfl rfl) h1
  obtain ⟨As, N, cs, rfl, _, st, hN, hs, hw⟩ := row_arg Try.underlying40 Try.underlying5 (by kernel_rfl) (hval 2 40 v2 rfl rfl) h2
  have hwb : ∀ x ∈ st, 0 ≤ x ∧ x ≤ 255 := fun x hx => by simpa [Lit.wf, IntKind.min, IntKind.max, IntKind.signed, IntKind.bits] using hw x hx
  have hmap : st.map (Value.int .u8) = (st.map Int.toNat).map (fun x : Nat => Value.int .u8 x) := by
    rw [List.map_map]
    refine List.map_congr_left fun x hx => ?_
    have := hwb x hx
    simp [Int.toNat_of_nonneg this.1]
  rw [hmap] at hs
  clear hA0 hval0 hsz0
  have walk : Calls Try.prog 4 #[rivV m A0 A1 c0 c1, .agg #[.int .i64 n, .int .i64 l, .int .i64 h], .slice As N cs] W fun e w' => e = .returned (.bool true) ∧ Below W.heap.size W w' :=
    SkipBetween_c blank_ok A0 A1 As c0 c1 cs N m n l h (st.map Int.toNat) (by simpa using hN) W hc hs (fun x hx => by obtain ⟨y, hy, rfl⟩ := List.mem_map.1 hx; have := hwb y hy; omega)
  refine walk.mono fun e W' ⟨he, bel⟩ => ?_
  subst he
  exact ⟨_, rfl, _, _, _, [], _, [], hW', trodAll_mk1 (shut_bool Try.underlying4 _), (trodAll_cons_mk (Below.trod laidOut (by kernel_rfl) (of_decide_eq_true (by kernel_rfl)) k0 bel lt0) (trodAll_cons_mk (Below.trod laidOut (by kernel_rfl) (of_decide_eq_true (by kernel_rfl)) k1 bel lt1) (trodAll_cons_mk (Below.trod laidOut (by kernel_rfl) (of_decide_eq_true (by kernel_rfl)) k2 bel lt2) trodAll_mk0))), rfl, bel.frame _, fun h => by cases h⟩
theorem over : Rows.skipBetweenRow.holds Try.pinned (OpenSpec.ofChange Rows.skipBetweenSpec) :=
  OpenClaim.holds_of_wide 4 Try.f4 rfl rfl rfl rfl rfl rfl rfl ⟨rfl, rfl, rfl, rfl, rfl⟩ rfl rfl rfl rfl rfl (by kernel_rfl) Try.func4 (by kernel_rfl)
    (of_decide_eq_true (by kernel_rfl)) (by unfold Func.isWrapper; first | (rw [if_pos (by decide +kernel)]; kernel_rfl) | (rw [if_neg (by decide +kernel)]; exact ⟨rfl, rfl⟩))
    (fun os started H enc _ => lifted os started H enc)
theorem proved : Rows.SkipBetweenSaid := over
#print axioms proved
end Go.Proofs.Ytjbgdpbeabakiaa.skipBetween
namespace Go.Proofs.Ytjbgdpbeabakiaa
/-- The row, under a short name, for the claim. -/
theorem skipBetween_holds : Rows.SkipBetweenSaid := skipBetween.proved
end Go.Proofs.Ytjbgdpbeabakiaa
