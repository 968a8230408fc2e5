/- skill.tried: a contract for whatever is tried. -/
import Derived.Test.YtknpkldmihhddaaR1
namespace Go.Proofs.Ytknpkldmihhddaa
open Go.RowKit Go.Shelf
set_option linter.unusedVariables false
set_option linter.unusedSimpArgs false

/-- nothing but block n has turned, and there may be more -/
structure Ch (n : Nat) (w w' : World) : Prop where
  os : w'.os = w.os
  tape : w'.tape = w.tape
  output : w'.output = w.output
  size : w.heap.size ≤ w'.heap.size
  block : ∀ k, k < w.heap.size → k ≠ n → w'.heap[k]? = w.heap[k]?
theorem Ch.of_below {n : Nat} {w w' : World} (h : Below w.heap.size w w') : Ch n w w' := ⟨h.os, h.tape, h.output, h.size, fun k hk _ => h.block k hk⟩
theorem Ch.trans {n : Nat} {a b c : World} (h : Ch n a b) (k : Ch n b c) : Ch n a c :=
  ⟨k.os.trans h.os, k.tape.trans h.tape, k.output.trans h.output, Nat.le_trans h.size k.size, fun i hi hn => (k.block i (Nat.lt_of_lt_of_le hi h.size) hn).trans (h.block i hi hn)⟩
theorem Ch.set {n : Nat} (w : World) (o : Nat) (v : Value) : Ch n w (w.setCell ⟨n, o, none⟩ v) :=
  ⟨rfl, rfl, rfl, by simp, fun k _ hn => Below.heap_setCell _ _ _ _ hn⟩
theorem Ch.cell {n : Nat} {w w' : World} (h : Ch n w w') {b o : Nat} (hb : b < w.heap.size) (hn : b ≠ n) : w'.cell? ⟨b, o, none⟩ = w.cell? ⟨b, o, none⟩ := World.cell?_of_block (w := w) (h.block b hb hn)

set_option maxRecDepth 100000 in
theorem skill_tried1_idle (p : Addr) (w : World) : CallsD Try.prog 51 #[.pointer (some p)] .returning w fun e u' w' =>
    e = .returned (.tuple #[]) ∧ u' = .returning ∧ Below w.heap.size w w' := by
  have hta : ∀ w, (Instr.typeAssert Value.nilIface 20 100 true).run Try.prog w = .ok (.tuple #[.agg #[.int .i64 0], .bool false]) w := fun w => by kernel_rfl
  refine callsD_of_wpS Try.func51 rfl fun c₀ cs hu => ?_
  simp only [Try.ntmps51, List.size_toArray, List.length_cons, List.length_nil, Nat.reduceAdd, Nat.reduceSub, Array.replicate_succ, Array.replicate_zero, List.push_toArray, List.append_toArray, List.nil_append, List.cons_append]
  apply wpS_seq
  apply wpS_region
  simp [wpOpsS, go_sem, recoverD, hu, Exit.thenS]
  refine wpS_of_wp ?_
  go_wp2
  exact ⟨rfl, .returning, by cases c₀; simp_all, .tuple #[], by simp [results, Try.results51], rfl, rfl, (by repeat (with_reducible first | exact Below.refl _ _ | assumption | refine Below.al ?_ _ | refine Below.dr ?_ | refine Below.drn ?_ _ | refine Below.sc ?_ (by simp <;> omega) _ | refine Below.th ?_ (by assumption)))⟩
set_option maxRecDepth 100000 in
theorem skill_tried1_caught (P : Nat) (c x : Int) (older : List PanicEntry) (w : World) (hc : w.cell? ⟨P, 0, none⟩ = some (.int .i64 x)) (hz : w.frozen? ⟨P, 0, none⟩ = false) (hP : P < w.heap.size) :
    CallsD Try.prog 51 #[.pointer (some ⟨P, 0, none⟩)] (.panicking ({ v := .iface 100 (.agg #[.int .i64 c]), recovered := false } :: older)) w fun e u' w' =>
    e = .returned (.tuple #[]) ∧ u' = .panicking ({ v := .iface 100 (.agg #[.int .i64 c]), recovered := true } :: older) ∧ w'.cell? ⟨P, 0, none⟩ = some (.int .i64 c) ∧ Ch P w w' := by
  have hta : ∀ w, (Instr.typeAssert (.iface 100 (.agg #[.int .i64 c])) 20 100 true).run Try.prog w = .ok (.tuple #[.agg #[.int .i64 c], .bool true]) w := fun w => by kernel_rfl
  refine callsD_of_wpS Try.func51 rfl fun c₀ cs hu => ?_
  simp only [Try.ntmps51, List.size_toArray, List.length_cons, List.length_nil, Nat.reduceAdd, Nat.reduceSub, Array.replicate_succ, Array.replicate_zero, List.push_toArray, List.append_toArray, List.nil_append, List.cons_append]
  apply wpS_seq
  apply wpS_region
  simp [wpOpsS, go_sem, recoverD, hu, Exit.thenS]
  refine wpS_of_wp ?_
  go_wp2
  refine ⟨rfl, _, rfl, .tuple #[], by simp [results, Try.results51], rfl, rfl, ?_, ?_⟩
  · rw [((Below.refl _ _).alloc (Nat.le_refl _) _).cell (by simpa using hP)]; simp [go_sem, hc]
  first
    | exact Ch.trans (Ch.of_below ((Below.refl _ _).alloc (Nat.le_refl _) _)) (Ch.set _ _ _)
    | exact Ch.trans (Ch.set _ _ _) (Ch.of_below ((Below.refl _ _).alloc (Nat.le_refl _) _))
/-- What is tried may end early with an error c. -/
theorem skill_tried_c (f : FuncId) (caps : Array Value) (w : World) (eg : Enters Try.prog f) (R : Ending → World → Prop)
    (h : Calls Try.prog f caps (w.alloc (.cells #[.int .i64 0] 33)) fun e W => W.heap[w.heap.size]? = some (.cells #[.int .i64 0] 33 (0, 0)) ∧
      ((e = .returned (.tuple #[]) ∧ ∀ W', Ch w.heap.size W W' → R (.returned (.int .i64 0)) W') ∨
       (∃ c, e = .panicked (misF 100 c) ∧ ∀ W', Ch w.heap.size W W' → R (.returned (.int .i64 c)) W'))) :
    Calls Try.prog 26 #[.func (.func f) #[] caps] w R := by
  have hmf : ∀ (fn : Fn) (first cap : Array Value) (w : World), (Instr.makeFunc fn first cap).run Try.prog w = .ok (.func fn first cap) w := fun _ _ _ _ => rfl
  have H := Aside.mk h
  clear h
  unfold Enters at eg
  go_enter_defers Try.func26, Try.ntmps26
  go_wp2_with fail
  refine H.out.mono ?_
  rintro e W ⟨hblk, ⟨rfl, hR⟩ | ⟨c, rfl, hR⟩⟩
  · have hlt : w.heap.size < W.heap.size := (Array.getElem?_eq_some_iff.1 hblk).1
    have d0 : W.cell? ⟨w.heap.size, 0, none⟩ = some (.int .i64 0) := by simp [World.cell?, hblk]
    have f0 : W.frozen? ⟨w.heap.size, 0, none⟩ = false := by simp [World.frozen?, hblk]
    have HR := Aside.mk hR
    clear hR hblk
    go_wp2
    refine leaves_cons (f := 51) (args := #[.pointer (some ⟨w.heap.size, 0, none⟩)]) (by simp) (by simp [go_sem]) ?_
    refine (skill_tried1_idle _ _).mono ?_
    rintro e u' w'' ⟨rfl, rfl, hb⟩
    have c0 : w''.cell? ⟨w.heap.size, 0, none⟩ = some (.int .i64 0) := by
      rw [hb.cell (by simpa using hlt)]; simp [go_sem, d0]
    have := HR.out w'' (Ch.trans (Ch.set _ _ _) (Ch.of_below hb))
    simp [Leaves, settle, results, Try.results26, go_sem, c0, this]
  · have hlt : w.heap.size < W.heap.size := (Array.getElem?_eq_some_iff.1 hblk).1
    have d0 : W.cell? ⟨w.heap.size, 0, none⟩ = some (.int .i64 0) := by simp [World.cell?, hblk]
    have f0 : W.frozen? ⟨w.heap.size, 0, none⟩ = false := by simp [World.frozen?, hblk]
    have HR := Aside.mk hR
    clear hR hblk
    unfold misF
    go_wp2
    refine leaves_cons (f := 51) (args := #[.pointer (some ⟨w.heap.size, 0, none⟩)]) (by simp) (by simp [go_sem]) ?_
    refine (skill_tried1_caught _ c 0 [] _ d0 f0 hlt).mono ?_
    rintro e u' w'' ⟨rfl, rfl, c0, hch⟩
    have := HR.out w'' hch
    simp [Leaves, settle, results, Try.results26, go_sem, c0, this]
end Go.Proofs.Ytknpkldmihhddaa
