/- Contracts of the law's own small functions: few, draw, alive. -/
import Derived.Test.YtknpkldmihhddaaW2
import Derived.Test.YtknpkldmihhddaaS5
namespace Go.Proofs.Ytknpkldmihhddaa
open Go.RowKit
set_option linter.unusedVariables false
set_option linter.unusedSimpArgs false

theorem Arr.ints3 (w : World) (a b c : Int) (T : TypeId) : Arr (w.alloc (.cells #[.int .i64 a, .int .i64 b, .int .i64 c] T)) (some ⟨w.heap.size, 0, none⟩) (ints [a, b, c]) := Arr.fresh w #[.int .i64 a, .int .i64 b, .int .i64 c] T (0, 0)
theorem Arr.ints2 (w : World) (a b : Int) (T : TypeId) : Arr (w.alloc (.cells #[.int .i64 a, .int .i64 b] T)) (some ⟨w.heap.size, 0, none⟩) (ints [a, b]) := Arr.fresh w #[.int .i64 a, .int .i64 b] T (0, 0)
theorem few_c (w : World) : Calls Try.prog 23 #[] w fun e w' => ∃ A, e = .returned (.slice A 3 3) ∧ Arr w' A (ints [6, 3, 1]) ∧ Below w.heap.size w w' := by
  go_enter Try.func23, Try.ntmps23
  go_wp2
  go_ret
  exact ⟨_, rfl, Arr.ints3 _ _ _ _ _, (by repeat (with_reducible first | exact Below.refl _ _ | assumption | refine Below.al ?_ _ | refine Below.dr ?_ | refine Below.drn ?_ _ | refine Below.sc ?_ (by simp <;> omega) _ | refine Below.th ?_ (by assumption)))⟩
theorem draw_c (w : World) : Calls Try.prog 24 #[] w fun e w' => e = .returned (.agg #[.int .i64 0, .int .i64 0, .int .i64 0, .int .i64 0, .int .i64 0, .int .i64 1000, .int .i64 0, .slice none 0 0, .int .i64 10, .int .i64 20]) ∧ Below w.heap.size w w' := by
  go_enter Try.func24, Try.ntmps24
  go_wp2
  refine bodyPost_ret (v := .agg #[.int .i64 0, .int .i64 0, .int .i64 0, .int .i64 0, .int .i64 0, .int .i64 1000, .int .i64 0, .slice none 0 0, .int .i64 10, .int .i64 20]) (by simp [results, Try.results24, go_sem]) rfl ?_
  exact ⟨rfl, (by repeat (with_reducible first | exact Below.refl _ _ | assumption | refine Below.al ?_ _ | refine Below.dr ?_ | refine Below.drn ?_ _ | refine Below.sc ?_ (by simp <;> omega) _ | refine Below.th ?_ (by assumption)))⟩
theorem chance_few : chanceV [6, 3, 1] [1, 2] 2 = .tuple #[.agg #[.int .i64 4, .int .i64 12], .agg #[.int .i64 6, .int .i64 12], .int .i64 0] := by rfl
theorem mean_few : meanV [6, 3, 1] [0, 65536, 131072] 2 = .tuple #[.int .i64 27306, .int .i64 49152, .int .i64 0] := by rfl
theorem throw_draw : thrV 0 0 0 0 0 1000 0 [] 10 20 0 = .tuple #[.agg #[.int .i64 0, .int .i64 0, .int .i64 0, .int .i64 0, .int .i64 (-30), .int .i64 940, .int .i64 0, .bool false], .int .i64 0] := by rfl
structure Two (W : World) (b : Nat) : Prop where
  lt : b + 1 < W.heap.size
  a0 : W.cell? ⟨b, 0, none⟩ = some (.int .i64 4)
  a1 : W.cell? ⟨b, 1, none⟩ = some (.int .i64 12)
  b0 : W.cell? ⟨b + 1, 0, none⟩ = some (.int .i64 6)
  b1 : W.cell? ⟨b + 1, 1, none⟩ = some (.int .i64 12)
theorem Two.below {W W' : World} {b : Nat} (h : Two W b) (hb : Below W.heap.size W W') : Two W' b := by
  have e0 : ∀ o, W'.cell? ⟨b, o, none⟩ = W.cell? ⟨b, o, none⟩ := fun o => hb.cell (p := ⟨b, o, none⟩) (by have := h.lt; simp; omega)
  have e1 : ∀ o, W'.cell? ⟨b + 1, o, none⟩ = W.cell? ⟨b + 1, o, none⟩ := fun o => hb.cell (p := ⟨b + 1, o, none⟩) (by have := h.lt; simp; omega)
  exact ⟨Nat.lt_of_lt_of_le h.lt hb.size, (e0 _).trans h.a0, (e0 _).trans h.a1, (e1 _).trans h.b0, (e1 _).trans h.b1⟩
theorem Two.al {W : World} {b : Nat} (h : Two W b) (o : Obj) : Two (W.alloc o) b := h.below (Below.al (Below.refl _ _) _)
set_option maxHeartbeats 1000000 in
set_option maxRecDepth 100000 in
theorem alive_c (w : World) : Calls Try.prog 7 #[] w fun e w' => e = .returned (.bool true) ∧ Below w.heap.size w w' := by
  have K1 := Aside.mk (fun A B w hr hs => Chance_c A B 3 2 [6, 3, 1] [1, 2] 2 w hr hs (by simp) (by simp))
  rw [chance_few] at K1
  have K2 := Aside.mk (fun A B w hr hs => Mean_c A B 3 3 [6, 3, 1] [0, 65536, 131072] 2 w hr hs (by simp) (by simp))
  rw [mean_few] at K2
  have K3 := Aside.mk (fun w => Throw_c 0 0 0 0 0 1000 0 none 0 [] 10 20 0 w (Arr.nil _ _) (by simp))
  rw [throw_draw] at K3
  simp only [List.length_cons, List.length_nil] at K1 K2 K3
  go_enter Try.func7, Try.ntmps7
  go_wp2_with fail
  refine (few_c _).mono ?_
  rintro e v0 ⟨A, rfl, hA, zb0⟩
  go_wp2_with fail
  refine (K1.out _ _ _ (Arr.al hA _) (Arr.ints2 _ _ _ _)).mono ?_
  clear hA
  rintro e v1 ⟨rfl, zb1⟩
  go_wp2_with fail
  have T : Two ((v1.alloc (.cells #[.int .i64 4, .int .i64 12] 46)).alloc (.cells #[.int .i64 6, .int .i64 12] 46)) v1.heap.size := ⟨by simp, by simp [go_sem], by simp [go_sem], by simp [go_sem], by simp [go_sem]⟩
  refine (few_c _).mono ?_
  rintro e v2 ⟨A, rfl, hA, zb2⟩
  have T := T.below zb2
  go_wp2_with fail
  refine (K2.out _ _ _ (Arr.al hA _) (Arr.ints3 _ _ _ _ _)).mono ?_
  clear hA
  rintro e v3 ⟨rfl, zb3⟩
  have T := (T.al _).below zb3
  go_wp2_with fail
  refine (draw_c _).mono ?_
  rintro e v4 ⟨rfl, zb4⟩
  have T := T.below zb4
  go_wp2_with fail
  refine (K3.out _).mono ?_
  rintro e v5 ⟨rfl, zb5⟩
  have T := T.below zb5
  have HB : Below w.heap.size w v5 := (by repeat (with_reducible first | exact Below.refl _ _ | assumption | refine Below.al ?_ _ | refine Below.dr ?_ | refine Below.drn ?_ _ | refine Below.sc ?_ (by simp <;> omega) _ | refine Below.th ?_ (by assumption)))
  obtain ⟨tl, t0, t1, t2, t3⟩ := T
  have tl' : v1.heap.size < v5.heap.size := by omega
  clear zb0 zb1 zb2 zb3 zb4 zb5 K1 K2 K3
  go_wp2
  go_ret
  exact ⟨rfl, (by repeat (with_reducible first | exact Below.refl _ _ | assumption | refine Below.al ?_ _ | refine Below.dr ?_ | refine Below.drn ?_ _ | refine Below.sc ?_ (by simp <;> omega) _ | refine Below.th ?_ (by assumption)))⟩
end Go.Proofs.Ytknpkldmihhddaa
