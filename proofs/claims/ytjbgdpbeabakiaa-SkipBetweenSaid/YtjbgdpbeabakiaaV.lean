/- Words of these proofs: how rows of cells read, small facts on endings and searches; no statement of the program. -/
import Derived.Test.YtjbgdpbeabakiaaProg
import Derived.WalkKit
import Derived.WalkSpells
import Derived.WalkLawsBesides
import Derived.Deep.LoopGhost
import Derived.Deep.QuietTactic
import Derived.BigQuiet
import Derived.Lib.Hide
namespace Go.Proofs.Ytjbgdpbeabakiaa
open Go.RowKit

/-- A row of cells that reads as a list. -/
def Arr (w : World) (A : Option Addr) (cs : List Value) : Prop :=
  cs = [] ∨ ∃ b o, A = some ⟨b, o, none⟩ ∧ b < w.heap.size ∧ ∀ i, i < cs.length → w.cell? ⟨b, o + i, none⟩ = cs[i]?
theorem Arr.below {w w' : World} {A : Option Addr} {cs : List Value} (h : Arr w A cs) (hb : Below w.heap.size w w') : Arr w' A cs := by
  rcases h with h | ⟨b, o, hA, hl, hc⟩
  · exact .inl h
  · exact .inr ⟨b, o, hA, Nat.lt_of_lt_of_le hl hb.size, fun i hi => (hb.cell (p := ⟨b, o + i, none⟩) hl).trans (hc i hi)⟩
theorem Arr.nil (w : World) (A : Option Addr) : Arr w A [] := .inl rfl

def ints (l : List Int) : List Value := l.map (Value.int .i64)
theorem ints_length (l : List Int) : (ints l).length = l.length := by simp [ints]
theorem Arr.int_at {w : World} {A : Option Addr} {l : List Int} (h : Arr w A (ints l)) {i : Nat} (hi : i < l.length) : ∃ b o, A = some ⟨b, o, none⟩ ∧ b < w.heap.size ∧ w.cell? ⟨b, o + i, none⟩ = some (.int .i64 l[i]) := by
  rcases h with h | ⟨b, o, hA, hb, hc⟩
  · simp [ints] at h; subst h; simp at hi
  · refine ⟨b, o, hA, hb, ?_⟩
    rw [hc i (by simpa [ints] using hi)]; simp [ints, hi]

/-- Rows whose elements have several cells. -/
def cells {α : Type} (enc : α → List Value) (l : List α) : List Value := l.flatMap enc
theorem cells_length {α : Type} {enc : α → List Value} {n : Nat} (hn : ∀ x, (enc x).length = n) (l : List α) : (cells enc l).length = l.length * n := by
  induction l with
  | nil => simp [cells]
  | cons x l ih => simp only [cells, List.flatMap_cons, List.length_append, List.length_cons] at *; rw [ih, hn, Nat.succ_mul, Nat.add_comm]
theorem cells_get {α : Type} {enc : α → List Value} {n : Nat} (hn : ∀ x, (enc x).length = n) : ∀ (l : List α) (i : Nat) (hi : i < l.length) (j : Nat), j < n → (cells enc l)[i * n + j]? = (enc l[i])[j]?
  | [], i, hi, _, _ => by simp at hi
  | x :: l, 0, _, j, hj => by simp only [cells, List.flatMap_cons, Nat.zero_mul, Nat.zero_add]; rw [List.getElem?_append_left (by rw [hn]; exact hj)]; rfl
  | x :: l, i + 1, hi, j, hj => by
    have ih := cells_get hn l i (by simpa using hi) j hj
    simp only [cells, List.flatMap_cons] at *
    rw [List.getElem?_append_right (by rw [hn, Nat.succ_mul]; omega), hn, show (i + 1) * n + j - n = i * n + j from by rw [Nat.succ_mul]; omega, ih]
    rfl
theorem Arr.at {α : Type} {enc : α → List Value} {n : Nat} (hn : ∀ x, (enc x).length = n) {w : World} {A : Option Addr} {l : List α} (h : Arr w A (cells enc l)) (hpos : 0 < n) {i : Nat} (hi : i < l.length) :
    ∃ b o, A = some ⟨b, o, none⟩ ∧ b < w.heap.size ∧ ∀ j, j < n → w.cell? ⟨b, o + i * n + j, none⟩ = (enc l[i])[j]? := by
  have hlen := cells_length hn l
  have hin : ∀ j, j < n → i * n + j < l.length * n := fun j hj => by
    have : (i + 1) * n ≤ l.length * n := Nat.mul_le_mul_right _ hi
    rw [Nat.succ_mul] at this; omega
  rcases h with h | ⟨b, o, hA, hb, hc⟩
  · rw [h] at hlen; have := hin 0 hpos; simp at hlen; omega
  · refine ⟨b, o, hA, hb, fun j hj => ?_⟩
    rw [Nat.add_assoc, hc _ (by rw [hlen]; exact hin j hj), cells_get hn l i hi j hj]

theorem ret_bool {a b : Bool} (h : a = b) : Ending.returned (.bool a) = .returned (.bool b) := by rw [h]
theorem ret_int {k : IntKind} {a b : Int} (h : a = b) : Ending.returned (.int k a) = .returned (.int k b) := by rw [h]
/-- behind a call that makes memory: old cells and marks read as before -/
theorem bcell {W w1 : World} (hb : Below W.heap.size W w1) : (∀ b o, b < W.heap.size → w1.cell? ⟨b, o, none⟩ = W.cell? ⟨b, o, none⟩) ∧ (∀ b o, b < W.heap.size → w1.frozen? ⟨b, o, none⟩ = W.frozen? ⟨b, o, none⟩) :=
  ⟨fun b o h => hb.cell (p := ⟨b, o, none⟩) h, fun b o h => hb.frozen (p := ⟨b, o, none⟩) h⟩
structure Aside (p : Prop) : Prop where mk :: (out : p)
set_option linter.unusedVariables false
theorem lt_add_k {b n k : Nat} (h : b < n) : (b < n + k) = True := by simp; omega
attribute [go_sem] lt_add_k
theorem Below.th {w w1 w2 : World} (h : Below w.heap.size w w1) (k : Below w1.heap.size w1 w2) : Below w.heap.size w w2 := h.trans (k.mono h.size)
theorem Below.al {w w1 : World} (h : Below w.heap.size w w1) (o : Obj) : Below w.heap.size w (w1.alloc o) := h.alloc h.size o
theorem Below.dr {w w1 : World} (h : Below w.heap.size w w1) : Below w.heap.size w w1.drew := h.drew
theorem Below.drn {w w1 : World} (h : Below w.heap.size w w1) (n : Nat) : Below w.heap.size w (w1.drewN n) := ⟨h.os, h.tape, h.output, h.size, h.block⟩
theorem Below.sc {w w1 : World} (h : Below w.heap.size w w1) {p : Addr} (hp : w.heap.size ≤ p.block) (u : Value) : Below w.heap.size w (w1.setCell p u) := h.setCell hp u
theorem Calls.below_q {P : Program} {f : FuncId} {args : Array Value} {w : World} {v : Ending} (h : Calls P f args w fun e w' => e = v ∧ w = w') : Calls P f args w fun e w' => e = v ∧ Below w.heap.size w w' :=
  h.mono fun _ _ ⟨he, hw⟩ => ⟨he, by subst hw; exact Below.refl _ _⟩
theorem heap_al {w : World} {o : Obj} {k : Nat} {v : Option Obj} (h : k < w.heap.size) (e : w.heap[k]? = v) : (w.alloc o).heap[k]? = v := by rw [Below.heap_alloc _ _ _ h]; exact e
theorem heap_be {w w' : World} {B k : Nat} {v : Option Obj} (hb : Below B w w') (h : k < B) (e : w.heap[k]? = v) : w'.heap[k]? = v := (hb.block k h).trans e
theorem Arr.fresh (w : World) (cs : Array Value) (T : TypeId) (fz : Nat × Nat) : Arr (w.alloc (.cells cs T fz)) (some ⟨w.heap.size, 0, none⟩) cs.toList := by
  refine .inr ⟨w.heap.size, 0, rfl, by simp, fun i hi => ?_⟩
  have e : (w.alloc (.cells cs T fz)).heap[w.heap.size]? = some (.cells cs T fz) := by show (w.heap.push _)[w.heap.size]? = _; simp
  simp only [World.cell?, e, Nat.zero_add]
  simp
theorem Arr.al {w : World} {A : Option Addr} {cs : List Value} (h : Arr w A cs) (o : Obj) : Arr (w.alloc o) A cs := h.below ((Below.refl _ _).alloc (Nat.le_refl _) _)
/-- is a number from one to another one -/
def inR (a lo hi : Int) : Bool := decide (lo ≤ a) && decide (a ≤ hi)
theorem inR_iff {a lo hi : Int} : inR a lo hi = true ↔ lo ≤ a ∧ a ≤ hi := by simp [inR]
theorem inR_false {a lo hi : Int} : inR a lo hi = false ↔ ¬ (lo ≤ a ∧ a ≤ hi) := by rw [← inR_iff]; simp

/-- the first place at which p holds, or -1 -/
def idx {α : Type} (p : α → Bool) : List α → Int
  | [] => -1
  | x :: l => if p x then 0 else (if idx p l < 0 then -1 else idx p l + 1)
def NoBefore {α : Type} (p : α → Bool) (l : List α) (k : Nat) : Prop := ∀ j, (h : j < l.length) → j < k → p l[j] = false
theorem NoBefore.zero {α : Type} (p : α → Bool) (l : List α) : NoBefore p l 0 := fun _ _ h => by omega
theorem NoBefore.succ {α : Type} {p : α → Bool} {l : List α} {k : Nat} (h : NoBefore p l k) (hk : k < l.length) (hp : p l[k] = false) : NoBefore p l (k + 1) := fun j hj hjk => by
  by_cases e : j = k
  · subst e; exact hp
  · exact h j hj (by omega)
theorem idx_hit {α : Type} (p : α → Bool) : ∀ (l : List α) (k : Nat) (hk : k < l.length), NoBefore p l k → p l[k] = true → idx p l = k
  | [], k, hk, _, _ => by simp at hk
  | x :: l, 0, hk, _, h => by simp at h; simp [idx, h]
  | x :: l, k + 1, hk, hn, h => by
    have h0 : p x = false := hn 0 (by simp) (by omega)
    have ih := idx_hit p l k (by simpa using hk) (fun j hj hjk => hn (j + 1) (by simpa using hj) (by omega)) (by simpa using h)
    simp [idx, h0, ih]; omega
theorem idx_none {α : Type} (p : α → Bool) : ∀ (l : List α), NoBefore p l l.length → idx p l = -1
  | [], _ => rfl
  | x :: l, hn => by
    have h0 : p x = false := hn 0 (by simp) (by simp)
    have ih := idx_none p l (fun j hj hjk => hn (j + 1) (by simpa using hj) (by simp; omega))
    simp [idx, h0, ih]
theorem idx_any {α : Type} (p : α → Bool) : ∀ (l : List α), decide (idx p l ≥ 0) = l.any p
  | [] => rfl
  | x :: l => by
    have ih := idx_any p l
    have hb : -1 ≤ idx p l := by
      clear ih
      induction l with
      | nil => simp [idx]
      | cons y l ih => simp only [idx]; split <;> (try split) <;> omega
    simp only [idx, List.any_cons]
    by_cases hx : p x = true
    · simp [hx]
    · simp only [hx, Bool.false_eq_true, if_false, ← ih, Bool.false_or]
      by_cases h0 : idx p l < 0 <;> simp [h0] <;> omega
end Go.Proofs.Ytjbgdpbeabakiaa
