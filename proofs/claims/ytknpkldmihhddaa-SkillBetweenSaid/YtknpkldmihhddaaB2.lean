/- Contracts of skill: valid, body, CheckCall; glide.CheckBrooms. -/
import Derived.Test.YtknpkldmihhddaaC1
namespace Go.Proofs.Ytknpkldmihhddaa
open Go.RowKit
set_option linter.unusedVariables false
set_option linter.unusedSimpArgs false

theorem scene_one (b : Bod) : sceneOk [b] = (b.ok && b.fine) := by simp [sceneOk, sceneGo]
theorem skill_valid_c (t n x y u v s : Int) (o : Bool) (w : World) :
    Calls Try.prog 33 #[.agg #[.int .i64 t, .int .i64 n, .int .i64 x, .int .i64 y, .int .i64 u, .int .i64 v, .int .i64 s, .bool o]] w fun e w' => e = .returned (.bool (sceneOk [⟨t, n, x, y, u, v, s, o⟩])) ∧ Below w.heap.size w w' := by
  have key := Aside.mk (Check_c (some ⟨w.heap.size + 1, 0, none⟩) 1 [⟨t, n, x, y, u, v, s, o⟩])
  go_enter Try.func33, Try.ntmps33
  go_wp2_with (go_at_call 58; refine (key.out _ (by simpa [bodies, cells, Bod.cs] using Arr.fresh (w.alloc (.cells #[.int .i64 t, .int .i64 n, .int .i64 x, .int .i64 y, .int .i64 u, .int .i64 v, .int .i64 s, .bool o] 32)) #[.int .i64 t, .int .i64 n, .int .i64 x, .int .i64 y, .int .i64 u, .int .i64 v, .int .i64 s, .bool o] 32 (0, 0)) (by simp)).mono ?_; rintro e w' ⟨rfl, zb⟩; obtain ⟨zc, zf⟩ := bcell zb; have zz := zb.size; (try simp at zz); (try have zq := fun b (h : b < w.heap.size) => (by omega : b < w'.heap.size)); (try have zq0 : w.heap.size < w'.heap.size := by omega); (try have zq1 : w.heap.size + 1 < w'.heap.size := by omega); (try have zq2 : w.heap.size + 2 < w'.heap.size := by omega); (try have zr0 : wr.heap.size < w'.heap.size := by omega); (try have zr1 : wr.heap.size + 1 < w'.heap.size := by omega))
  go_ret
  refine ⟨ret_bool ?_, (by repeat (with_reducible first | exact Below.refl _ _ | assumption | refine Below.al ?_ _ | refine Below.dr ?_ | refine Below.drn ?_ _ | refine Below.sc ?_ (by simp <;> omega) _ | refine Below.th ?_ (by assumption)))⟩
  unfold eArg; split <;> simp [*]
theorem shot_body_c (t n x y u v s : Int) (B : Option Addr) (m c : Nat) (p q : Int) (w : World) :
    Calls Try.prog 34 #[.agg #[.int .i64 t, .int .i64 n, .int .i64 x, .int .i64 y, .int .i64 u, .int .i64 v, .int .i64 s, .slice B m c, .int .i64 p, .int .i64 q]] w fun e w' => e = .returned (.agg #[.int .i64 t, .int .i64 n, .int .i64 x, .int .i64 y, .int .i64 u, .int .i64 v, .int .i64 s, .bool false]) ∧ Below w.heap.size w w' := by
  go_enter Try.func34, Try.ntmps34
  go_wp2
  refine bodyPost_ret (v := .agg #[.int .i64 t, .int .i64 n, .int .i64 x, .int .i64 y, .int .i64 u, .int .i64 v, .int .i64 s, .bool false]) (by simp [results, Try.results34, go_sem]) rfl ?_
  exact ⟨rfl, (by repeat (with_reducible first | exact Below.refl _ _ | assumption | refine Below.al ?_ _ | refine Below.dr ?_ | refine Below.drn ?_ _ | refine Below.sc ?_ (by simp <;> omega) _ | refine Below.th ?_ (by assumption)))⟩
end Go.Proofs.Ytknpkldmihhddaa
