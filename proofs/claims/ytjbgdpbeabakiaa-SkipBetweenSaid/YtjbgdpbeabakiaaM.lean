/- Laws for a map of the call's own whose keys are arrays or structs: what it holds as a list of pairs; asked, stored into. -/
import Derived.Test.YtjbgdpbeabakiaaV
import Derived.ChangeKeysEq
import Derived.WideKeyRuns
namespace Go.Proofs.Ytjbgdpbeabakiaa
open Go.RowKit
set_option linter.unusedVariables false
set_option linter.unusedSectionVars false
set_option linter.unusedSimpArgs false

section
variable {κ : Type} [BEq κ] [LawfulBEq κ] [DecidableEq κ]
/-- The map in block r holds the pairs of l, in this order (keys by enc). -/
def MapOf (enc : κ → Value) (w : World) (r : Nat) (l : List (κ × Value)) : Prop :=
  ∃ es clock, w.heap[r]? = some (.map es clock) ∧ es.toList.map (fun e => (e.key, e.val)) = l.map (fun p => (enc p.1, p.2))
theorem MapOf.at {enc : κ → Value} {w w' : World} {r : Nat} {l : List (κ × Value)} (h : MapOf enc w r l) (he : w'.heap[r]? = w.heap[r]?) : MapOf enc w' r l := by
  obtain ⟨es, c, h1, h2⟩ := h; exact ⟨es, c, he.trans h1, h2⟩
theorem MapOf.lt {enc : κ → Value} {w : World} {r : Nat} {l : List (κ × Value)} (h : MapOf enc w r l) : r < w.heap.size := by
  obtain ⟨es, c, h1, _⟩ := h; exact (Array.getElem?_eq_some_iff.1 h1).1
theorem MapOf.new (enc : κ → Value) (w : World) : MapOf enc (w.alloc (.map #[] 0)) w.heap.size [] :=
  ⟨#[], 0, by show (w.heap.push _)[w.heap.size]? = _; simp, rfl⟩
/-- What is asked of the keys' type. -/
structure KeyLaws (P : Program) (K : TypeId) (enc : κ → Value) : Prop where
  wide : (match P.underlying K with | some (.array _ _) | some (.struct _) => true | _ => false) = true
  eq : ∀ w a b, (Op.equal K (enc a) (enc b)).run P w = .ok (decide (a = b)) w
  check : ∀ w em a, (Instr.checkKey em 10000 K (enc a)).run P w = .ok () w
variable {P : Program} {K : TypeId} {enc : κ → Value}
def findP (k : κ) : List (κ × Value) → Nat → Option (Nat × Value)
  | [], _ => none
  | p :: l, i => if k = p.1 then some (i, p.2) else findP k l (i + 1)
theorem findP_value (k : κ) : ∀ (l : List (κ × Value)) (i : Nat), (findP k l i).map (·.2) = l.lookup k
  | [], _ => rfl
  | (a, v) :: l, i => by
    simp only [findP, List.lookup]
    by_cases h : k = a
    · simp [h]
    · simp only [h, if_false, beq_eq_false_iff_ne.2 h]; exact findP_value k l (i + 1)
theorem run_find (L : KeyLaws P K enc) (w : World) (k : κ) : ∀ (es : List MapEntry) (l : List (κ × Value)) (i : Nat), es.map (fun e => (e.key, e.val)) = l.map (fun p => (enc p.1, p.2)) →
    (Instr.findAsking K (enc k) es i).run P w = .ok (findP k l i) w
  | [], [], _, _ => by simp [Instr.findAsking, findP]
  | [], _ :: _, _, h => by simp at h
  | _ :: _, [], _, h => by simp at h
  | e :: es, p :: l, i, h => by
    simp only [List.map_cons, List.cons.injEq, Prod.mk.injEq] at h
    obtain ⟨⟨h1, h2⟩, h3⟩ := h
    have ih := run_find L w k es l (i + 1) h3
    simp only [Instr.findAsking, Sem.run_bind, h1, L.eq, Result.andThen_ok, findP]
    by_cases hk : k = p.1
    · simp [hk, h2]
    · simp [hk, ih]
theorem MapOf.lookup (L : KeyLaws P K enc) {w : World} {r : Nat} {l : List (κ × Value)} (h : MapOf enc w r l) {T E : TypeId} (hT : P.underlying T = some (.map K E)) {z : Value} (hz : ∀ w, (zeroValue E).run P w = .ok z w) (k : κ) :
    (Instr.lookup T (.map (some r)) (enc k) false).run P w = .ok ((l.lookup k).getD z) w := by
  obtain ⟨es, c, h1, h2⟩ := h
  have hf := run_find L w k es.toList l 0 h2
  have hg : (getObj r).run P w = .ok (.map es c) w := by simp [getObj, Sem.run, h1]
  simp only [Instr.lookup, Sem.run_bind, run_underlying hT, Result.andThen_ok, hg, Sem.run_pure, L.check, run_findKey_eq (P := P) w L.wide, hf]
  rw [← findP_value k l 0]
  cases findP k l 0 <;> simp [hz]
theorem MapOf.lookup_ok (L : KeyLaws P K enc) {w : World} {r : Nat} {l : List (κ × Value)} (h : MapOf enc w r l) {T E : TypeId} (hT : P.underlying T = some (.map K E)) {z : Value} (hz : ∀ w, (zeroValue E).run P w = .ok z w) (k : κ) :
    (Instr.lookup T (.map (some r)) (enc k) true).run P w = .ok (.tuple #[(l.lookup k).getD z, .bool (l.lookup k).isSome]) w := by
  obtain ⟨es, c, h1, h2⟩ := h
  have hf := run_find L w k es.toList l 0 h2
  have hg : (getObj r).run P w = .ok (.map es c) w := by simp [getObj, Sem.run, h1]
  simp only [Instr.lookup, Sem.run_bind, run_underlying hT, Result.andThen_ok, hg, Sem.run_pure, L.check, run_findKey_eq (P := P) w L.wide, hf]
  rw [← findP_value k l 0]
  cases findP k l 0 <;> simp [hz]
/-- the world behind a store of a new key -/
def World.setMap (w : World) (r : Nat) (o : Obj) : World := { w with heap := w.heap.setIfInBounds r o }
theorem MapOf.store (L : KeyLaws P K enc) {w : World} {r : Nat} {l : List (κ × Value)} (h : MapOf enc w r l) {T E : TypeId} (hT : P.underlying T = some (.map K E)) (k : κ) (v : Value) (hk : l.lookup k = none) :
    ∃ w', (Instr.mapUpdate T (.map (some r)) (enc k) v).run P w = .ok () w' ∧ MapOf enc w' r (l ++ [(k, v)]) ∧ w'.heap.size = w.heap.size ∧ (∀ i, i ≠ r → w'.heap[i]? = w.heap[i]?) ∧ w'.os = w.os ∧ w'.tape = w.tape ∧ w'.output = w.output := by
  have hlt := h.lt
  obtain ⟨es, c, h1, h2⟩ := h
  have hf := run_find L w k es.toList l 0 h2
  have hn : findP k l 0 = none := by
    have := findP_value k l 0; rw [hk] at this; simpa using this
  rw [hn] at hf
  have hg : (getObj r).run P w = .ok (.map es c) w := by simp [getObj, Sem.run, h1]
  have hs : (setObj r (.map (es.push { key := enc k, val := v, born := c }) (c + 1))).run P w = .ok () { w with heap := w.heap.setIfInBounds r (.map (es.push { key := enc k, val := v, born := c }) (c + 1)) } := by simp [setObj, Sem.run, h1]
  refine ⟨{ w with heap := w.heap.setIfInBounds r (.map (es.push { key := enc k, val := v, born := c }) (c + 1)) }, ?_, ⟨es.push { key := enc k, val := v, born := c }, c + 1, by simp [hlt], ?_⟩, by simp, fun i hi => by simp [Array.getElem?_setIfInBounds, Ne.symm hi], rfl, rfl, rfl⟩
  · simp only [Instr.mapUpdate, Sem.run_bind, run_underlying hT, Result.andThen_ok, hg, Sem.run_pure, L.check, run_findKey_eq (P := P) w L.wide, hf]
    exact hs
  · simp [h2]
end

theorem run_eq_int {P : Program} {I : TypeId} (hI : P.underlying I = some (.int .i64)) (d : Nat) (a b : Int) (w : World) : (Op.equalIn (d + 1) I (.int .i64 a) (.int .i64 b)).run P w = .ok (a == b) w := by
  simp [Op.equalIn, run_underlying hI]
theorem run_check_int {P : Program} {I : TypeId} (hI : P.underlying I = some (.int .i64)) (em : Bool) (d : Nat) (a : Int) (w : World) : (Instr.checkKey em (d + 1) I (.int .i64 a)).run P w = .ok () w := by
  simp [Instr.checkKey, run_underlying hI]
theorem run_check_array (P : Program) {K I : TypeId} {n : Nat} (hK : P.underlying K = some (.array n I)) {i : TypeInfo} (hi : P.info? I = some i) (em : Bool) (d : Nat) (cs : Array Value) (w : World)
    (h : ∀ j, j < n → ∃ v, (part I cs (j * P.cellsOf I)).run P w = .ok v w ∧ (Instr.checkKey em d I v).run P w = .ok () w) : (Instr.checkKey em (d + 1) K (.agg cs)).run P w = .ok () w := by
  simp only [Instr.checkKey, Sem.run_bind, run_underlying hK, Result.andThen_ok]
  simp only [Std.Legacy.Range.forIn_eq_forIn_range', Std.Legacy.Range.size, Nat.sub_zero, Nat.add_one_sub_one, Nat.div_one]
  have key : ∀ is : List Nat, (∀ j ∈ is, j < n) → (forIn is PUnit.unit fun i r => do
      let c ← Go.sizeOf I
      let x ← part I cs (i * c)
      Instr.checkKey em d I x
      pure (ForInStep.yield PUnit.unit) : Sem PUnit).run P w = .ok PUnit.unit w := by
    intro is
    induction is with
    | nil => intro _; simp
    | cons j is ih =>
      intro hj
      obtain ⟨v, h1, h2⟩ := h j (hj j (by simp))
      simp only [List.forIn_cons, Sem.run_bind, run_sizeOf w hi, Result.andThen_ok, h1, h2, Sem.run_pure]
      exact ih fun k hk => hj k (by simp [hk])
  have hk := key (List.range' 0 n) (fun j hj => by simpa [List.mem_range'] using hj)
  rw [hk]
  simp
theorem pair_laws {P : Program} {K I : TypeId} (hK : P.underlying K = some (.array 2 I)) (hI : P.underlying I = some (.int .i64)) {i : TypeInfo} (hi : P.info? I = some i) (h1 : P.cellsOf I = 1) (hA : P.plainKey I = true) :
    KeyLaws P K (fun p : Int × Int => Value.agg #[.int .i64 p.1, .int .i64 p.2]) where
  wide := by rw [hK]
  eq := fun w a b => by
    have e : (Op.maxDepth : Nat) = 9998 + 1 + 1 := rfl
    have hp : ∀ (x y : Int) (w : World), (part I #[.int .i64 x, .int .i64 y] (0 * 1)).run P w = .ok (.int .i64 x) w ∧ (part I #[.int .i64 x, .int .i64 y] (1 * 1)).run P w = .ok (.int .i64 y) w :=
      fun x y w => ⟨run_part_plain w hA (by simp), run_part_plain w hA (by simp)⟩
    simp only [Op.equal, e, run_equalIn_array w _ _ _ hK hi, h1, show List.range 2 = [0, 1] from rfl, Op.eqItems, Sem.run_bind, (hp _ _ _).1, (hp _ _ _).2, Result.andThen_ok, run_eq_int hI]
    obtain ⟨a1, a2⟩ := a
    obtain ⟨b1, b2⟩ := b
    by_cases h : a1 = b1 <;> by_cases h' : a2 = b2 <;> simp [h, h', (hp _ _ _).1, (hp _ _ _).2, run_eq_int hI]
  check := fun w em a => run_check_array P hK hi em 9999 _ w fun j hj => by
    have e : (9999 : Nat) = 9998 + 1 := rfl
    rw [h1]
    obtain rfl | rfl : j = 0 ∨ j = 1 := by omega
    · exact ⟨_, run_part_plain w hA (v := .int .i64 a.1) (by simp), by rw [e]; exact run_check_int hI _ _ _ _⟩
    · exact ⟨_, run_part_plain w hA (v := .int .i64 a.2) (by simp), by rw [e]; exact run_check_int hI _ _ _ _⟩
theorem pairs : KeyLaws Try.prog 78 (fun p : Int × Int => Value.agg #[.int .i64 p.1, .int .i64 p.2]) := by
  obtain ⟨i, hi⟩ : ∃ i, Try.prog.info? 3 = some i := Option.isSome_iff_exists.1 (by kernel_rfl)
  exact pair_laws Try.underlying78 Try.underlying3 hi (by kernel_rfl) (by kernel_rfl)
end Go.Proofs.Ytjbgdpbeabakiaa
