/- The functions 'tried': what was panicked is recovered; a contract for whatever is tried. -/
import Derived.Test.YtjbgdpbeabakiaaF2
import Derived.Recover
import Derived.Defers
import Derived.Shelf.Abstract
namespace Go.Proofs.Ytjbgdpbeabakiaa
open Go.RowKit Go.Shelf
set_option linter.unusedVariables false
set_option linter.unusedSimpArgs false

set_option maxRecDepth 100000 in
theorem tried1_idle (p q : Addr) (w : World) : CallsD Try.prog 83 #[.pointer (some p), .pointer (some q)] .returning w fun e u' w' =>
    e = .returned (.tuple #[]) ∧ u' = .returning ∧ Below w.heap.size w w' := by
  have hta : ∀ w, (Instr.typeAssert Value.nilIface 20 129 true).run Try.prog w = .ok (.tuple #[.agg #[.int .i64 0], .bool false]) w := fun w => by kernel_rfl
  refine callsD_of_wpS Try.func83 rfl fun c₀ cs hu => ?_
  simp only [Try.ntmps83, List.size_toArray, List.length_cons, List.length_nil, Nat.reduceAdd, Nat.reduceSub, Array.replicate_succ, Array.replicate_zero, List.push_toArray, List.append_toArray, List.nil_append, List.cons_append]
  apply wpS_seq
  apply wpS_region
  simp [wpOpsS, go_sem, recoverD, hu, Exit.thenS]
  refine wpS_of_wp ?_
  go_wp2
  exact ⟨rfl, .returning, by cases c₀; simp_all, .tuple #[], by simp [results, Try.results83], rfl, rfl, (by repeat (with_reducible first | exact Below.refl _ _ | assumption | refine Below.al ?_ _ | refine Below.dr ?_ | refine Below.drn ?_ _ | refine Below.sc ?_ (by simp <;> omega) _ | refine Below.th ?_ (by assumption)))⟩

/-- what is tried hands back a number -/
theorem triedF_ok (f : FuncId) (caps : Array Value) (v : Int) (w : World) (eg : Enters Try.prog f)
    (h : ∀ W, Below w.heap.size w W → Calls Try.prog f caps W fun e W' => e = .returned (.int .i64 v) ∧ Below W.heap.size W W') :
    Calls Try.prog 74 #[.func (.func f) #[] caps] w fun e w' => e = .returned (.tuple #[.int .i64 v, .int .i64 0]) ∧ Below w.heap.size w w' := by
  have hmf : ∀ (fn : Fn) (first cap : Array Value) (w : World), (Instr.makeFunc fn first cap).run Try.prog w = .ok (.func fn first cap) w := fun _ _ _ _ => rfl
  have H := Aside.mk h
  clear h
  unfold Enters at eg
  go_enter_defers Try.func74, Try.ntmps74
  go_wp2_with (go_at_fn f; refine (H.out _ (by repeat (with_reducible first | exact Below.refl _ _ | assumption | refine Below.al ?_ _ | refine Below.dr ?_ | refine Below.drn ?_ _ | refine Below.sc ?_ (by simp <;> omega) _ | refine Below.th ?_ (by assumption)))).mono ?_; rintro e w' ⟨rfl, zb⟩; obtain ⟨zc, zf⟩ := bcell zb; have zz := zb.size; (try simp at zz); (try have zq := fun b (h : b < w.heap.size) => (by omega : b < w'.heap.size)); (try have zq0 : w.heap.size < w'.heap.size := by omega); (try have zq1 : w.heap.size + 1 < w'.heap.size := by omega); (try have zq2 : w.heap.size + 2 < w'.heap.size := by omega); (try have zr0 : wr.heap.size < w'.heap.size := by omega); (try have zr1 : wr.heap.size + 1 < w'.heap.size := by omega))
  refine leaves_cons (f := 83) (args := #[.pointer (some ⟨w.heap.size, 0, none⟩), .pointer (some ⟨w.heap.size + 1, 0, none⟩)]) (by simp) (by simp [go_sem]) ?_
  refine (tried1_idle _ _ _).mono ?_
  rintro e u' w'' ⟨rfl, rfl, hb⟩
  obtain ⟨hc, hf⟩ := bcell hb
  have hsz := hb.size
  simp at hsz
  have d0 : w'.cell? ⟨w.heap.size, 0, none⟩ = some (.int .i64 0) := by rw [zc _ _ (by simp <;> omega)]; simp [go_sem]
  have d1 : w'.cell? ⟨w.heap.size + 1, 0, none⟩ = some (.int .i64 0) := by rw [zc _ _ (by simp <;> omega)]; simp [go_sem]
  have c0 : w''.cell? ⟨w.heap.size, 0, none⟩ = some (.int .i64 v) := by
    rw [hc _ _ (by simp; omega)]; simp [go_sem, d0, d1]
  have c1 : w''.cell? ⟨w.heap.size + 1, 0, none⟩ = some (.int .i64 0) := by
    rw [hc _ _ (by simp; omega)]; simp [go_sem, d0, d1]
  have hB : Below w.heap.size w w'' := (by repeat (with_reducible first | exact Below.refl _ _ | assumption | refine Below.al ?_ _ | refine Below.dr ?_ | refine Below.drn ?_ _ | refine Below.sc ?_ (by simp <;> omega) _ | refine Below.th ?_ (by assumption)))
  simp [Leaves, settle, results, Try.results74, go_sem, c0, c1, hB]
end Go.Proofs.Ytjbgdpbeabakiaa
