/- Opening what came in: the leaves of structs, rows of cells. -/
import Derived.Test.YtjbgdpbeabakiaaB4
import Derived.ProofKit
import Derived.Deep.Slices
import Derived.SizedLaws
namespace Go.Proofs.Ytjbgdpbeabakiaa
open Go.ChangeShapes Go.WideShapes Go.ChangeAt Go.RowKit Go.Deep
set_option linter.unusedVariables false
set_option linter.unusedSimpArgs false
theorem list_of {α : Type} {Q : Nat → α → Prop} : ∀ n, (∀ i, i < n → ∃ a, Q i a) → ∃ l : List α, l.length = n ∧ ∀ i (hi : i < l.length), Q i l[i]
  | 0, _ => ⟨[], rfl, fun i hi => by simp at hi⟩
  | n + 1, h => by
    obtain ⟨l, hl, hq⟩ := list_of n fun i hi => h i (by omega)
    obtain ⟨a, ha⟩ := h n (by omega)
    refine ⟨l ++ [a], by simp [hl], fun i hi => ?_⟩
    by_cases e : i < l.length
    · rw [List.getElem_append_left e]; exact hq i e
    · have hin : i = n := by simp at hi; omega
      subst hin
      rw [List.getElem_append_right (by omega)]; simpa [hl] using ha
theorem cells_ints : ∀ l : List Int, cells (fun b : Int => [Value.int .i64 b]) l = ints l
  | [] => rfl
  | x :: l => by have := cells_ints l; simp only [cells, ints, List.flatMap_cons, List.map_cons] at *; rw [this]; rfl
theorem addr_plain {w : World} {a : Addr} {v : Value} (h : w.cell? a = some v) : a = ⟨a.block, a.off, none⟩ ∧ a.block < w.heap.size := by
  obtain ⟨b, o, s⟩ := a
  simp only [World.cell?] at h
  split at h
  · rename_i e
    cases s with
    | none => exact ⟨rfl, (Array.getElem?_eq_some_iff.1 e).1⟩
    | some s => simp at h
  · simp at h
theorem add_plain (b o i j : Nat) : ((Addr.mk b o none).add i).add j = ⟨b, o + i + j, none⟩ := by
  unfold Addr.add
  by_cases h : i = 0 <;> by_cases k : j = 0 <;> simp [h, k]
theorem arr_of {α : Type} {enc : α → List Value} {n : Nat} (hn : ∀ x, (enc x).length = n) (hp : 0 < n) {w : World} {a : Addr} (l : List α) (h : ∀ i (hi : i < l.length), ∀ j, j < n → w.cell? ((a.add (i * n)).add j) = (enc l[i])[j]?) : Arr w (some a) (cells enc l) := by
  by_cases h0 : 0 < l.length
  · have hc := h 0 h0 0 hp
    rw [List.getElem?_eq_getElem (by rw [hn]; exact hp)] at hc
    simp [Addr.add] at hc
    obtain ⟨e, hb⟩ := addr_plain hc
    refine .inr ⟨a.block, a.off, by rw [← e], hb, fun i hi => ?_⟩
    rw [cells_length hn] at hi
    have hd : i / n < l.length := Nat.div_lt_of_lt_mul (by rw [Nat.mul_comm]; exact hi)
    have hm : i % n < n := Nat.mod_lt _ hp
    have he : i / n * n + i % n = i := by rw [Nat.mul_comm]; exact Nat.div_add_mod _ _
    have := h (i / n) hd (i % n) hm
    rw [e, add_plain, Nat.add_assoc, he] at this
    rw [this, ← cells_get hn l _ hd _ hm, he]
  · have : l = [] := by cases l with | nil => rfl | cons _ _ => simp at h0
    subst this
    exact .inl rfl
section
variable {H : Type} {enc : TypeId × Value → H} {P : Program} {w : World} {base : Nat} {spare : Nat → Bool} {held : Bool} {t fuel : Nat} {cs : List Value} {x : DataW H × List MemPlace}
theorem field_trod {fs : Array Field} (ht : P.underlying t = some (.struct fs)) (h : DataW.trod enc P w base spare held fuel t cs = some x) (i : Nat) (f : Field) (hf : fs[i]? = some f) :
    ∃ n y, DataW.trod enc P w base spare held n f.type ((cs.drop f.offset).take (P.cellsOf f.type)) = some y := by
  obtain ⟨xs, n, _, _, _, hl, hg⟩ := DataW.trod_struct ht h
  have hi := (Array.getElem?_eq_some_iff.1 hf).1
  exact ⟨n, xs[i]'(by omega), by rw [hg i f hf]; exact List.getElem?_eq_getElem _⟩
theorem trod_len {fs : Array Field} (ht : P.underlying t = some (.struct fs)) (h : DataW.trod enc P w base spare held fuel t cs = some x) : cs.length = P.cellsOf t :=
  let ⟨_, _, _, _, hl, _⟩ := DataW.trod_struct ht h
  hl
theorem int_of (ht : P.underlying t = some (.int .i64)) {c : Value} (h : DataW.trod enc P w base spare held fuel t [c] = some x) : ∃ n, c = .int .i64 n ∧ (Lit.int .i64 n).wf = true := by
  obtain ⟨n, e, _, hw⟩ := DataW.trod_int ht h
  exact ⟨n, by simpa using e, hw⟩
theorem open_row {t : TypeId} (ht : P.underlying t = some (.slice 3)) (he : P.underlying 3 = some (.int .i64)) (hc : P.cellsOf 3 = 1) (h : DataW.trod enc P w base spare held fuel t cs = some x) :
    ∃ A N c, cs = [.slice A N c] ∧ ∃ l : List Int, l.length = N ∧ Arr w A (ints l) ∧ ∀ n ∈ l, (Lit.int .i64 n).wf = true := by
  rcases open_slice ht h with ⟨h0, _⟩ | ⟨a, len, cap, m, n, D, Pl, hcs, hb, hl, hm, hmm, hx, hi⟩
  · exact ⟨_, _, _, h0, [], rfl, .inl rfl, fun _ h => by simp at h⟩
  · have hle : len ≤ m := by rw [hmm]; split <;> omega
    obtain ⟨l, hl1, hl2⟩ := list_of (Q := fun i (b : Int) => w.cell? ((a.add (i * 1)).add 0) = some (.int .i64 b) ∧ (Lit.int .i64 b).wf = true) len fun i hil => by
      obtain ⟨cs', hc', ht'⟩ := hi i (by omega)
      rw [hc] at hc'
      obtain ⟨_, hcl, hat⟩ := World.cells?_some hc'
      obtain ⟨b, hb, _, hw⟩ := DataW.trod_int he ht'
      exact ⟨b, by rw [hat 0 (by omega), hb]; rfl, hw⟩
    refine ⟨_, _, _, hcs, l, hl1, ?_, fun n hn => ?_⟩
    · have := arr_of (enc := fun b : Int => [.int .i64 b]) (n := 1) (fun _ => rfl) (by omega) (a := a) l fun i hi j hj => by
        obtain rfl : j = 0 := by omega
        exact (hl2 i hi).1
      have e : cells (fun b : Int => [Value.int .i64 b]) l = ints l := cells_ints l
      rwa [e] at this
    · obtain ⟨i, hi, rfl⟩ := List.mem_iff_getElem.1 hn
      exact (hl2 i hi).2
end
section
variable {H : Type} {enc : TypeId × Value → H} {w : World} {base : Nat} {spare : Nat → Bool} {held : Bool} {fuel : Nat} {cs : List Value} {x : DataW H × List MemPlace}
end
end Go.Proofs.Ytjbgdpbeabakiaa
