/- Opening slices of whole numbers, as arguments. -/
import Derived.Test.YtjbgdpbeabakiaaO1
namespace Go.Proofs.Ytjbgdpbeabakiaa
open Go.ChangeShapes Go.WideShapes Go.ChangeAt Go.RowKit Go.Deep
set_option linter.unusedVariables false
set_option linter.unusedSimpArgs false
section
variable {H : Type} {enc : TypeId × Value → H} {P : Program} {w : World} {base : Nat} {spare : Nat → Bool} {held : Bool} {t fuel : Nat} {cs : List Value} {x : DataW H × List MemPlace}
theorem cells_ints_k (k : IntKind) : ∀ l : List Int, cells (fun b : Int => [Value.int k b]) l = l.map (Value.int k)
  | [] => rfl
  | x :: l => by have := cells_ints_k k l; simp only [cells, List.flatMap_cons, List.map_cons] at *; rw [this]; rfl
theorem open_row_k {e : TypeId} {k : IntKind} (ht : P.underlying t = some (.slice e)) (he : P.underlying e = some (.int k)) (hc : P.cellsOf e = 1) (h : DataW.trod enc P w base spare held fuel t cs = some x) :
    ∃ A N c, cs = [.slice A N c] ∧ N ≤ c ∧ ∃ l : List Int, l.length = N ∧ Arr w A (l.map (Value.int k)) ∧ ∀ n ∈ l, (Lit.int k n).wf = true := by
  rcases open_slice ht h with ⟨h0, _⟩ | ⟨a, len, cap, m, n, D, Pl, hcs, hb, hl, hm, hmm, hx, hi⟩
  · exact ⟨_, _, _, h0, Nat.le_refl _, [], rfl, .inl rfl, fun _ h => by simp at h⟩
  · have hle : len ≤ m := by rw [hmm]; split <;> omega
    obtain ⟨l, hl1, hl2⟩ := list_of (Q := fun i (b : Int) => w.cell? ((a.add (i * 1)).add 0) = some (.int k b) ∧ (Lit.int k b).wf = true) len fun i hil => by
      obtain ⟨cs', hc', ht'⟩ := hi i (by omega)
      rw [hc] at hc'
      obtain ⟨_, hcl, hat⟩ := World.cells?_some hc'
      obtain ⟨b, hb, _, hw⟩ := DataW.trod_int he ht'
      exact ⟨b, by rw [hat 0 (by omega), hb]; rfl, hw⟩
    refine ⟨_, _, _, hcs, hl, l, hl1, ?_, fun n hn => ?_⟩
    · have := arr_of (enc := fun b : Int => [.int k b]) (n := 1) (fun _ => rfl) (by omega) (a := a) l fun i hi j hj => by
        obtain rfl : j = 0 := by omega
        exact (hl2 i hi).1
      rwa [cells_ints_k] at this
    · obtain ⟨i, hi, rfl⟩ := List.mem_iff_getElem.1 hn
      exact (hl2 i hi).2
theorem row_arg {r : Reach} {b0 : Nat} {e : TypeId} {k : IntKind} {v : Value} {d : DataW H} {p : List MemPlace} (ht : P.underlying t = some (.slice e)) (he : P.underlying e = some (.int k)) (hc : P.cellsOf e = 1)
    (hval : Value.okWide P w r b0 t v) (h : DataW.Trod enc P w base spare held t v d p) :
    ∃ A N c, v = .slice A N c ∧ N ≤ c ∧ ∃ l : List Int, l.length = N ∧ Arr w A (l.map (Value.int k)) ∧ ∀ n ∈ l, (Lit.int k n).wf = true := by
  obtain ⟨a, len, cap, rfl⟩ := okWide_slice ht hval
  obtain ⟨fuel, hf⟩ := h
  obtain ⟨A, N, c, hcs, hh⟩ := open_row_k ht he hc hf
  simp [Value.cells] at hcs
  obtain ⟨rfl, rfl, rfl⟩ := hcs
  exact ⟨_, _, _, rfl, hh⟩
end
end Go.Proofs.Ytjbgdpbeabakiaa
