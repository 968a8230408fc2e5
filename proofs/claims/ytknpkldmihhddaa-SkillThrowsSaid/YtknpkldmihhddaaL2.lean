/- The law SkillThrows: its function answers true. -/
import Derived.Test.YtknpkldmihhddaaL1
namespace Go.Proofs.Ytknpkldmihhddaa
open Go.RowKit
set_option linter.unusedVariables false
set_option linter.unusedSimpArgs false

theorem thrV_shape (t n x y u v s : Int) (l : List Brm) (p q m : Int) : ∃ t' n' x' y' u' v' s' o' e', thrV t n x y u v s l p q m = .tuple #[.agg #[.int .i64 t', .int .i64 n', .int .i64 x', .int .i64 y', .int .i64 u', .int .i64 v', .int .i64 s', .bool o'], .int .i64 e'] := by
  unfold thrV; split <;> exact ⟨_, _, _, _, _, _, _, _, _, rfl⟩
theorem eArg_eq (b : Bool) : eArg b = 0 ∨ eArg b = 2 := by cases b <;> simp [eArg]
theorem SkillThrows_long (t n x y u v s : Int) (B : Option Addr) (N c : Nat) (p q m : Int) (w : World) (h : 66 < N) :
    Calls Try.prog 3 #[.agg #[.int .i64 t, .int .i64 n, .int .i64 x, .int .i64 y, .int .i64 u, .int .i64 v, .int .i64 s, .slice B N c, .int .i64 p, .int .i64 q], .int .i64 m] w fun e w' => e = .returned (.bool true) ∧ Below w.heap.size w w' := by
  go_enter Try.func3, Try.ntmps3
  go_wp2_with (go_at_call 7; refine (alive_c _).mono ?_; rintro e w' ⟨rfl, zb⟩; obtain ⟨zc, zf⟩ := bcell zb; have zz := zb.size; (try simp at zz); (try have zq := fun b (h : b < w.heap.size) => (by omega : b < w'.heap.size)); (try have zq0 : w.heap.size < w'.heap.size := by omega); (try have zq1 : w.heap.size + 1 < w'.heap.size := by omega); (try have zq2 : w.heap.size + 2 < w'.heap.size := by omega); (try have zr0 : wr.heap.size < w'.heap.size := by omega); (try have zr1 : wr.heap.size + 1 < w'.heap.size := by omega))
  go_ret
  exact ⟨rfl, (by repeat (with_reducible first | exact Below.refl _ _ | assumption | refine Below.al ?_ _ | refine Below.dr ?_ | refine Below.drn ?_ _ | refine Below.sc ?_ (by simp <;> omega) _ | refine Below.th ?_ (by assumption)))⟩
set_option maxHeartbeats 2000000 in
set_option maxRecDepth 100000 in
theorem SkillThrows_c (t n x y u v s : Int) (B : Option Addr) (c : Nat) (l : List Brm) (p q m : Int) (w : World) (hr : Arr w B (brooms l)) (hl : l.length ≤ 66) :
    Calls Try.prog 3 #[.agg #[.int .i64 t, .int .i64 n, .int .i64 x, .int .i64 y, .int .i64 u, .int .i64 v, .int .i64 s, .slice B l.length c, .int .i64 p, .int .i64 q], .int .i64 m] w fun e w' => e = .returned (.bool true) ∧ Below w.heap.size w w' := by
  have K1 := Aside.mk (fun w hr => Throw_c t n x y u v s B c l p q m w hr (by omega))
  have K2 := Aside.mk (fun w hr => RefThrow_c t n x y u v s B c l p q m w hr (by omega))
  have K3 := Aside.mk (fun w hr => CheckCall_c t n x y u v s B c l p q w hr (by omega))
  have K4 := Aside.mk (fun w hr => RefCheckCall_c t n x y u v s B c l p q w hr (by omega))
  obtain ⟨t', n', x', y', u', v', s', o', e', hV⟩ := thrV_shape t n x y u v s l p q m
  rw [hV] at K1 K2
  clear hV
  generalize eArg (callOk t n x y u v s l p q) = E at K3 K4
  go_enter Try.func3, Try.ntmps3
  go_wp2_with fail
  refine (K1.out _ (Arr.al hr _)).mono ?_
  rintro e v1 ⟨rfl, zb1⟩
  obtain ⟨zc1, zf1⟩ := bcell zb1
  have s1 := zb1.size
  simp at s1
  have q0 : w.heap.size < v1.heap.size := by omega
  have hr1 := (Arr.al hr _).below zb1
  go_wp2_with fail
  refine (K2.out _ (Arr.al hr1 _)).mono ?_
  rintro e v2 ⟨rfl, zb2⟩
  obtain ⟨zc2, zf2⟩ := bcell zb2
  have s2 := zb2.size
  simp at s2
  have hr2 := (Arr.al hr1 _).below zb2
  have q1 : w.heap.size < v2.heap.size := by omega
  have q2 : v1.heap.size < v2.heap.size := by omega
  go_wp2_with fail
  have hB : Below w.heap.size w (v2.alloc (.cells #[.int .i64 t', .int .i64 n', .int .i64 x', .int .i64 y', .int .i64 u', .int .i64 v', .int .i64 s', .bool o'] 32)) := (by repeat (with_reducible first | exact Below.refl _ _ | assumption | refine Below.al ?_ _ | refine Below.dr ?_ | refine Below.drn ?_ _ | refine Below.sc ?_ (by simp <;> omega) _ | refine Below.th ?_ (by assumption)))
  have hr3 := Arr.al hr2 (.cells #[.int .i64 t', .int .i64 n', .int .i64 x', .int .i64 y', .int .i64 u', .int .i64 v', .int .i64 s', .bool o'] 32)
  have D : ∀ b o, b < v2.heap.size → (v2.alloc (.cells #[.int .i64 t', .int .i64 n', .int .i64 x', .int .i64 y', .int .i64 u', .int .i64 v', .int .i64 s', .bool o'] 32)).cell? ⟨b, o, none⟩ = v2.cell? ⟨b, o, none⟩ := fun b o h => by simp [go_sem, h]
  have E0 : ∀ o, (v2.alloc (.cells #[.int .i64 t', .int .i64 n', .int .i64 x', .int .i64 y', .int .i64 u', .int .i64 v', .int .i64 s', .bool o'] 32)).cell? ⟨v2.heap.size, o, none⟩ = #[.int .i64 t', .int .i64 n', .int .i64 x', .int .i64 y', .int .i64 u', .int .i64 v', .int .i64 s', .bool o'][o]? := fun o => by simp [go_sem]
  have q3 : v2.heap.size < (v2.alloc (.cells #[.int .i64 t', .int .i64 n', .int .i64 x', .int .i64 y', .int .i64 u', .int .i64 v', .int .i64 s', .bool o'] 32)).heap.size := by simp
  generalize v2.alloc (.cells #[.int .i64 t', .int .i64 n', .int .i64 x', .int .i64 y', .int .i64 u', .int .i64 v', .int .i64 s', .bool o'] 32) = v3 at *
  have q4 : w.heap.size < v3.heap.size := by omega
  have q5 : v1.heap.size < v3.heap.size := by omega
  refine wp_region_more (by kernel_rfl) (by kernel_rfl) ?_
  iterate 19
    refine more_ex rfl (fun K hK => ?_)
    apply Exists.intro
    refine ⟨fun W hW => ?_, ?_⟩
    · obtain ⟨zc, zf⟩ := bcell hW
      go_simp
      first
        | exact rfl
        | (go_at_call 10; exact more_call hW (K3.out _ (hr3.below hW)))
        | (go_at_call 11; exact more_call hW (K4.out _ (hr3.below hW)))
        | (go_at_call 7; exact more_call hW (alive_c _))
    go_simp
    refine hK _ ?_
    clear hK K
  refine wpQuiet_nil ?_
  intro w2 hw2
  have hB2 := Below.th hB hw2
  go_wp2
  go_ret
  exact ⟨by simp, hB2⟩
end Go.Proofs.Ytknpkldmihhddaa
