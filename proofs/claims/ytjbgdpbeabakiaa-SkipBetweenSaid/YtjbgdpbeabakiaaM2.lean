/- Maps of the call's own of which only this is known: every entry satisfies Q; asked, stored into (an old key or a new one). States as keys. -/
import Derived.Test.YtjbgdpbeabakiaaM
import Derived.Laws.StructEq
import Derived.Laws.AppendOwn
namespace Go.Proofs.Ytjbgdpbeabakiaa
open Go.RowKit
set_option linter.unusedVariables false
set_option linter.unusedSectionVars false
set_option linter.unusedSimpArgs false
section
variable {κ : Type} [BEq κ] [LawfulBEq κ] [DecidableEq κ]
def MapAll (enc : κ → Value) (Q : κ → Value → Prop) (w : World) (r : Nat) : Prop := ∃ l, MapOf enc w r l ∧ ∀ p ∈ l, Q p.1 p.2
variable {P : Program} {K : TypeId} {enc : κ → Value} {Q : κ → Value → Prop}
theorem MapAll.lt {w : World} {r : Nat} (h : MapAll enc Q w r) : r < w.heap.size := h.elim fun _ h => h.1.lt
theorem MapAll.at {w w' : World} {r : Nat} (h : MapAll enc Q w r) (he : w'.heap[r]? = w.heap[r]?) : MapAll enc Q w' r := h.elim fun l h => ⟨l, h.1.at he, h.2⟩
theorem MapAll.below {w w' : World} {r B : Nat} (h : MapAll enc Q w r) (hb : Below B w w') (hr : r < B) : MapAll enc Q w' r := h.at (hb.block r hr)
theorem MapAll.new (enc : κ → Value) (Q : κ → Value → Prop) (w : World) : MapAll enc Q (w.alloc (.map #[] 0)) w.heap.size := ⟨[], MapOf.new enc w, fun _ h => by simp at h⟩
theorem lookup_mem (k : κ) : ∀ (l : List (κ × Value)) (v : Value), l.lookup k = some v → (k, v) ∈ l
  | [], _, h => by simp at h
  | (a, x) :: l, v, h => by
    simp only [List.lookup] at h
    by_cases e : k = a
    · subst e; simp at h; simp [h]
    · simp [beq_eq_false_iff_ne.2 e] at h; exact List.mem_cons_of_mem _ (lookup_mem k l v h)
theorem MapAll.lookup_ok (L : KeyLaws P K enc) {w : World} {r : Nat} (h : MapAll enc Q w r) {T E : TypeId} (hT : P.underlying T = some (.map K E)) {z : Value} (hz : ∀ w, (zeroValue E).run P w = .ok z w) (k : κ) :
    ∃ v ok, (Instr.lookup T (.map (some r)) (enc k) true).run P w = .ok (.tuple #[v, .bool ok]) w ∧ (ok = true → Q k v) ∧ (ok = false → v = z) := by
  obtain ⟨l, h1, h2⟩ := h
  refine ⟨_, _, h1.lookup_ok L hT hz k, fun h => ?_, fun h => ?_⟩
  · obtain ⟨v, hv⟩ := Option.isSome_iff_exists.1 h
    rw [hv]; exact h2 _ (lookup_mem k l v hv)
  · rw [Option.isSome_eq_false_iff, Option.isNone_iff_eq_none] at h; rw [h]; rfl
theorem findP_at (k : κ) : ∀ (l : List (κ × Value)) (j i : Nat) (v : Value), findP k l j = some (i, v) → ∃ t, i = j + t ∧ l[t]? = some (k, v)
  | [], _, _, _, h => by simp [findP] at h
  | p :: l, j, i, v, h => by
    simp only [findP] at h
    split at h
    · rename_i e; simp at h; obtain ⟨rfl, rfl⟩ := h; exact ⟨0, rfl, by subst e; rfl⟩
    · obtain ⟨t, e, ht⟩ := findP_at k l (j + 1) i v h
      exact ⟨t + 1, by omega, by simpa using ht⟩
theorem MapAll.store (L : KeyLaws P K enc) (stays : ∀ w a, (Instr.keyThatStays (enc a) (enc a)).run P w = .ok (enc a) w) {w : World} {r : Nat} (h : MapAll enc Q w r) {T E : TypeId} (hT : P.underlying T = some (.map K E)) (k : κ) (v : Value) (hq : Q k v) :
    ∃ w', (Instr.mapUpdate T (.map (some r)) (enc k) v).run P w = .ok () w' ∧ MapAll enc Q w' r ∧ w.grownBy w' (some r) := by
  obtain ⟨l, hm, hl⟩ := h
  cases hf : findP k l 0 with
  | none =>
    have hn : l.lookup k = none := by rw [← findP_value k l 0, hf]; rfl
    obtain ⟨w', h1, h2, h3, h4, h5, h6, h7⟩ := hm.store L hT k v hn
    refine ⟨w', h1, ⟨_, h2, fun p hp => ?_⟩, h5, h6, h7, by omega, fun i _ hi => h4 i (fun e => hi (by rw [e]))⟩
    rcases List.mem_append.1 hp with hp | hp
    · exact hl p hp
    · simp at hp; subst hp; exact hq
  | some iv =>
    obtain ⟨i, v0⟩ := iv
    obtain ⟨t, ht, hat⟩ := findP_at k l 0 i v0 hf
    rw [Nat.zero_add] at ht
    subst ht
    have hlt := hm.lt
    obtain ⟨es, c, h1, h2⟩ := hm
    have hfi := run_find L w k es.toList l 0 h2
    rw [hf] at hfi
    have hg : (getObj r).run P w = .ok (.map es c) w := by simp [getObj, Sem.run, h1]
    have hkey : (es[i]?.map (·.key)).getD (enc k) = enc k := by
      have := congrArg (fun l => l[i]?) h2
      simp only [List.getElem?_map, hat, Option.map_some, Array.getElem?_toList] at this
      cases he : es[i]? with
      | none => rfl
      | some e => rw [he] at this; simp at this; simp [this.1]
    have hs : (setObj r (.map (es.modify i fun e => { e with key := enc k, val := v }) c)).run P w = .ok () { w with heap := w.heap.setIfInBounds r (.map (es.modify i fun e => { e with key := enc k, val := v }) c) } := by simp [setObj, Sem.run, h1]
    refine ⟨{ w with heap := w.heap.setIfInBounds r (.map (es.modify i fun e => { e with key := enc k, val := v }) c) }, ?_, ⟨l.set i (k, v), ⟨es.modify i fun e => { e with key := enc k, val := v }, c, by simp [hlt], ?_⟩, fun p hp => ?_⟩, rfl, rfl, rfl, by simp, fun j _ hj => ?_⟩
    · simp only [Instr.mapUpdate, Sem.run_bind, run_underlying hT, Result.andThen_ok, hg, Sem.run_pure, L.check, run_findKey_eq (P := P) w L.wide, hfi, hkey, stays]
      exact hs
    · apply List.ext_getElem?
      intro j
      have := congrArg (fun l => l[j]?) h2
      simp only [List.getElem?_map, Array.getElem?_toList] at this
      simp only [List.getElem?_map, Array.getElem?_toList, Array.getElem?_modify, List.getElem?_set]
      by_cases e : i = j
      · subst e
        have hil := (List.getElem?_eq_some_iff.1 hat).1
        rw [hat] at this
        cases he : es[i]? with
        | none => rw [he] at this; simp at this
        | some x => simp [hil]
      · simp [e, this]
    · rcases List.mem_or_eq_of_mem_set hp with hp | rfl
      · exact hl p hp
      · exact hq
    · have : r ≠ j := fun e => hj (by rw [e])
      simp [Array.getElem?_setIfInBounds, this]
end
def encS (k : Int × Int × Int) : Value := .agg #[.int .i64 k.1, .int .i64 k.2.1, .int .i64 k.2.2]
theorem stays_S (P : Program) (w : World) (a : Int × Int × Int) : (Instr.keyThatStays (encS a) (encS a)).run P w = .ok (encS a) w := by
  have hs : Instr.sameBits 10000 (encS a) (encS a) = true := by
    show Instr.sameBits (9998 + 1 + 1) _ _ = true
    simp [encS, Instr.sameBits]
  simp [Instr.keyThatStays, hs]
theorem states : KeyLaws Try.prog 27 encS where
  wide := by rw [Try.underlying27]
  eq := fun w a b => by
    have e : (Op.maxDepth : Nat) = 9998 + 1 + 1 := rfl
    have hp : Try.prog.stoodInHeld 27 = false := by kernel_rfl
    have ht : Try.prog.underlying 27 = some (.struct (Try.prog.fieldsOf 27)) := by simp [Program.fieldsOf, Try.underlying27]
    have hA : Try.prog.plainKey 3 = true := by kernel_rfl
    obtain ⟨a1, a2, a3⟩ := a
    obtain ⟨b1, b2, b3⟩ := b
    have hq : ∀ (x y z : Int) (w : World), (part 3 #[.int .i64 x, .int .i64 y, .int .i64 z] 0).run Try.prog w = .ok (.int .i64 x) w ∧ (part 3 #[.int .i64 x, .int .i64 y, .int .i64 z] 1).run Try.prog w = .ok (.int .i64 y) w ∧ (part 3 #[.int .i64 x, .int .i64 y, .int .i64 z] 2).run Try.prog w = .ok (.int .i64 z) w :=
      fun x y z w => ⟨run_part_plain w hA (by simp), run_part_plain w hA (by simp), run_part_plain w hA (by simp)⟩
    simp only [Op.equal, e, encS, run_equalIn_struct w _ _ _ _ ht hp]
    simp only [Program.fieldsOf, Try.underlying27, Op.eqFields]
    by_cases h1 : a1 = b1 <;> by_cases h2 : a2 = b2 <;> by_cases h3 : a3 = b3 <;> simp [h1, h2, h3, hq, run_eq_int Try.underlying3]
  check := fun w em a => by
    have hA : Try.prog.plainKey 3 = true := by kernel_rfl
    obtain ⟨a1, a2, a3⟩ := a
    have hq : ∀ (x y z : Int) (w : World), (part 3 #[.int .i64 x, .int .i64 y, .int .i64 z] 0).run Try.prog w = .ok (.int .i64 x) w ∧ (part 3 #[.int .i64 x, .int .i64 y, .int .i64 z] 1).run Try.prog w = .ok (.int .i64 y) w ∧ (part 3 #[.int .i64 x, .int .i64 y, .int .i64 z] 2).run Try.prog w = .ok (.int .i64 z) w :=
      fun x y z w => ⟨run_part_plain w hA (by simp), run_part_plain w hA (by simp), run_part_plain w hA (by simp)⟩
    show (Instr.checkKey em (9998 + 1 + 1) _ _).run Try.prog w = _
    simp only [encS]
    rw [Instr.checkKey]
    simp [run_underlying Try.underlying27, hq, run_check_int Try.underlying3]
end Go.Proofs.Ytjbgdpbeabakiaa
