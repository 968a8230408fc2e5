/- Plain laws of chapter 11: hopes as a function of rivals, ends, lead and hammer; where they lie; how they grow. -/
import Derived.Test.YtjbgdpbeabakiaaG2
namespace Go.Proofs.Ytjbgdpbeabakiaa
open Go.RowKit Go.Shelf
set_option linter.unusedVariables false
set_option linter.unusedSimpArgs false
theorem minI_ge {l : List Int} (h : 1 ≤ l.length) {lo : Int} (hv : ∀ i, (h : i < l.length) → lo ≤ l[i]) : lo ≤ minI l := by
  have key : ∀ k, 1 ≤ k → k ≤ l.length → lo ≤ minI (l.take k) := by
    intro k
    induction k with
    | zero => omega
    | succ k ih =>
      intro _ hk
      have a := hv k (by omega)
      by_cases h1 : 1 ≤ k
      · have := ih h1 (by omega)
        rw [minI_snoc l k (by omega) h1]; unfold minF; split <;> omega
      · obtain rfl : k = 0 := by omega
        cases l with
        | nil => simp at h
        | cons x t => simpa [minI] using a
  have := key l.length h (Nat.le_refl _)
  rwa [List.take_length] at this
theorem maxI_le {l : List Int} (h : 1 ≤ l.length) {hi : Int} (hv : ∀ i, (h : i < l.length) → l[i] ≤ hi) : maxI l ≤ hi := by
  have key : ∀ k, 1 ≤ k → k ≤ l.length → maxI (l.take k) ≤ hi := by
    intro k
    induction k with
    | zero => omega
    | succ k ih =>
      intro _ hk
      have a := hv k (by omega)
      by_cases h1 : 1 ≤ k
      · have := ih h1 (by omega)
        rw [maxI_snoc l k (by omega) h1]; unfold maxF; split <;> omega
      · obtain rfl : k = 0 := by omega
        cases l with
        | nil => simp at h
        | cons x t => simpa [maxI] using a
  have := key l.length h (Nat.le_refl _)
  rwa [List.take_length] at this
/-- sums of products grow with the values -/
theorem dot_mono : ∀ (c u v : List Int), (∀ i, (h : i < c.length) → 0 ≤ c[i]) → u.length = v.length → (∀ i, (h : i < u.length) → (h' : i < v.length) → u[i] ≤ v[i]) → dotI c u ≤ dotI c v
  | [], _, _, _, _, _ => by simp [dotI]
  | _ :: _, [], [], _, _, _ => by simp [dotI]
  | _ :: _, [], _ :: _, _, h, _ => by simp at h
  | _ :: _, _ :: _, [], _, h, _ => by simp at h
  | a :: c, x :: u, y :: v, hc, hl, h => by
    have ih := dot_mono c u v (fun i hi => by have := hc (i + 1) (by simpa using hi); rwa [List.getElem_cons_succ] at this) (by simpa using hl) (fun i h1 h2 => by have := h (i + 1) (by simpa using h1) (by simpa using h2); rwa [List.getElem_cons_succ, List.getElem_cons_succ] at this)
    have h0 := h 0 (by simp) (by simp)
    have c0 := hc 0 (by simp)
    simp at h0 c0
    have := Int.mul_le_mul_of_nonneg_left h0 c0
    simp only [dotI]; omega
theorem dot_const : ∀ (c v : List Int) (x : Int), v.length = c.length → (∀ i, (h : i < v.length) → v[i] = x) → dotI c v = x * sumI c
  | [], [], x, _, _ => by simp [dotI, sumI]
  | [], _ :: _, _, h, _ => by simp at h
  | _ :: _, [], _, h, _ => by simp at h
  | a :: c, y :: v, x, hl, h => by
    have ih := dot_const c v x (by simpa using hl) (fun i hi => by have := h (i + 1) (by simpa using hi); rwa [List.getElem_cons_succ] at this)
    have h0 := h 0 (by simp)
    simp at h0
    rw [dotI, ih, sumI_cons, h0, Int.mul_add, Int.mul_comm a]
def Pos (c : List Int) : Prop := ∀ i, (h : i < c.length) → 0 ≤ c[i]
theorem sum_pos (c : List Int) (h : Pos c) : 0 ≤ sumI c := by
  have key : ∀ k, k ≤ c.length → 0 ≤ sumI (c.take k) := by
    intro k
    induction k with
    | zero => intro _; simp [sumI]
    | succ k ih => intro hk; rw [sumI_snoc c k (by omega)]; have := ih (by omega); have := h k (by omega); omega
  have := key c.length (Nat.le_refl _); rwa [List.take_length] at this
theorem dot_lo {c v : List Int} {lo : Int} (hc : Pos c) (hl : v.length = c.length) (hv : ∀ i, (h : i < v.length) → lo ≤ v[i]) : lo * sumI c ≤ dotI c v := by
  rw [← dot_const c (List.replicate c.length lo) lo (by simp) (by simp)]
  exact dot_mono _ _ _ hc (by simp [hl]) (fun i h1 h2 => by simpa using hv i h2)
theorem dot_hi {c v : List Int} {hi : Int} (hc : Pos c) (hl : v.length = c.length) (hv : ∀ i, (h : i < v.length) → v[i] ≤ hi) : dotI c v ≤ hi * sumI c := by
  rw [← dot_const c (List.replicate c.length hi) hi (by simp) (by simp)]
  exact dot_mono _ _ _ hc (by simp [hl]) (fun i h1 h2 => by simpa using hv i h1)
/-- means lie where the values lie -/
theorem mean_in {c v : List Int} {d lo hi : Int} (hd : 1 ≤ d) (hc : Pos c) (hl : v.length = c.length) (h1 : 1 ≤ c.length) (hv : ∀ i, (h : i < v.length) → lo ≤ v[i] ∧ v[i] ≤ hi) :
    lo ≤ lowM c v d ∧ lowM c v d ≤ hi ∧ lo ≤ highM c v d ∧ highM c v d ≤ hi := by
  have s := sum_pos c hc
  have hS : 0 < sumI c + d := by omega
  have a1 := minI_ge (l := v) (by omega) (fun i h => (hv i h).1)
  have a3 := maxI_le (l := v) (by omega) (fun i h => (hv i h).2)
  have hz := hv 0 (by omega)
  have a2 := minI_all (l := v) (i := 0) (by omega)
  have a4 := maxI_all (l := v) (i := 0) (by omega)
  have b1 := dot_lo hc hl (fun i h => (hv i h).1)
  have b2 := dot_hi hc hl (fun i h => (hv i h).2)
  have p1 := Int.mul_le_mul_of_nonneg_left a1 (show 0 ≤ d by omega)
  have p2 := Int.mul_le_mul_of_nonneg_left (show minI v ≤ hi by omega) (show 0 ≤ d by omega)
  have p3 := Int.mul_le_mul_of_nonneg_left (show lo ≤ maxI v by omega) (show 0 ≤ d by omega)
  have p4 := Int.mul_le_mul_of_nonneg_left a3 (show 0 ≤ d by omega)
  have e1 : lo * (sumI c + d) = d * lo + lo * sumI c := by rw [Int.mul_add, Int.mul_comm lo d]; omega
  have e2 : hi * (sumI c + d) = d * hi + hi * sumI c := by rw [Int.mul_add, Int.mul_comm hi d]; omega
  refine ⟨?_, ?_, ?_, ?_⟩
  · simp only [lowM, shr, if_true]; exact Int.le_ediv_of_mul_le hS (by omega)
  · simp only [lowM, shr, if_true]; exact Int.ediv_le_of_le_mul hS (by omega)
  · simp only [highM, shr]; rw [if_neg (by decide)]
    have := Int.ediv_le_of_le_mul (a := -(d * maxI v + dotI c v)) (b := -lo) (c := sumI c + d) hS (by rw [Int.neg_mul]; omega)
    omega
  · simp only [highM, shr]; rw [if_neg (by decide)]
    have := Int.le_ediv_of_mul_le (a := -hi) (b := -(d * maxI v + dotI c v)) (c := sumI c + d) hS (by rw [Int.neg_mul]; omega)
    omega
theorem minI_mono {u v : List Int} (h1 : 1 ≤ u.length) (hl : u.length = v.length) (h : ∀ i, (h : i < u.length) → (h' : i < v.length) → u[i] ≤ v[i]) : minI u ≤ minI v :=
  minI_ge (by omega) fun i hi => by have := minI_all (l := u) (i := i) (by omega); have := h i (by omega) hi; omega
theorem maxI_mono {u v : List Int} (h1 : 1 ≤ u.length) (hl : u.length = v.length) (h : ∀ i, (h : i < u.length) → (h' : i < v.length) → u[i] ≤ v[i]) : maxI u ≤ maxI v :=
  maxI_le (by omega) fun i hi => by have := maxI_all (l := v) (i := i) (by omega); have := h i hi (by omega); omega
/-- means grow with the values -/
theorem mean_mono {c u v : List Int} {d : Int} (hd : 1 ≤ d) (hc : Pos c) (h1 : 1 ≤ u.length) (hl : u.length = v.length) (h : ∀ i, (h : i < u.length) → (h' : i < v.length) → u[i] ≤ v[i]) :
    lowM c u d ≤ lowM c v d ∧ highM c u d ≤ highM c v d := by
  have s := sum_pos c hc
  have hS : 0 < sumI c + d := by omega
  have b := dot_mono c u v hc hl h
  have p1 := Int.mul_le_mul_of_nonneg_left (minI_mono h1 hl h) (show 0 ≤ d by omega)
  have p2 := Int.mul_le_mul_of_nonneg_left (maxI_mono h1 hl h) (show 0 ≤ d by omega)
  constructor
  · simp only [lowM, shr, if_true]; exact Int.ediv_le_ediv hS (by omega)
  · simp only [highM, shr]; rw [if_neg (by decide), if_neg (by decide)]
    have := Int.ediv_le_ediv hS (show -(d * maxI v + dotI c v) ≤ -(d * maxI u + dotI c u) by omega)
    omega
theorem low_high {c u v : List Int} {d : Int} (hd : 1 ≤ d) (hc : Pos c) (h1 : 1 ≤ u.length) (hl : u.length = v.length) (h : ∀ i, (h : i < u.length) → (h' : i < v.length) → u[i] ≤ v[i]) : lowM c u d ≤ highM c v d := by
  have s := sum_pos c hc
  have hS : 0 < sumI c + d := by omega
  have b := dot_mono c u v hc hl h
  have a1 := minI_all (l := u) (i := 0) (by omega)
  have a2 := maxI_all (l := v) (i := 0) (by omega)
  have a3 := h 0 (by omega) (by omega)
  have p1 := Int.mul_le_mul_of_nonneg_left (show minI u ≤ maxI v by omega) (show 0 ≤ d by omega)
  have f1 := Int.ediv_mul_le (d * minI u + dotI c u) (show sumI c + d ≠ 0 by omega)
  have f2 := Int.ediv_mul_le (-(d * maxI v + dotI c v)) (show sumI c + d ≠ 0 by omega)
  simp only [lowM, highM, shr, if_true]; rw [if_neg (by decide)]
  have : (d * minI u + dotI c u) / (sumI c + d) * (sumI c + d) ≤ -((-(d * maxI v + dotI c v)) / (sumI c + d)) * (sumI c + d) := by rw [Int.neg_mul]; omega
  exact Int.le_of_mul_le_mul_right this hS
/-- what is left to One, the other way round -/
theorem dot_turn (c v : List Int) (x : Int) (hl : v.length = c.length) : dotI c (v.map fun y => x - y) = x * sumI c - dotI c v := by
  have key : ∀ (c v : List Int), v.length = c.length → dotI c (v.map fun y => x - y) = x * sumI c - dotI c v := by
    intro c
    induction c with
    | nil => intro v hv; cases v <;> simp [dotI, sumI] at *
    | cons a c ih =>
      intro v hv
      cases v with
      | nil => simp at hv
      | cons y v =>
        have := ih v (by simpa using hv)
        simp only [List.map_cons, dotI, sumI_cons, this, Int.mul_add, Int.mul_sub, Int.mul_comm a, Int.sub_mul]
        omega
  exact key c v hl
theorem min_turn (v : List Int) (x : Int) (h1 : 1 ≤ v.length) : minI (v.map fun y => x - y) = x - maxI v := by
  have a : x - maxI v ≤ minI (v.map fun y => x - y) := minI_ge (by simpa using h1) fun i hi => by
    have := maxI_all (l := v) (i := i) (by simpa using hi); simp; omega
  have b : maxI v ≤ x - minI (v.map fun y => x - y) := maxI_le h1 fun i hi => by
    have := minI_all (l := v.map fun y => x - y) (i := i) (by simpa using hi); simp at this; omega
  omega
theorem max_turn (v : List Int) (x : Int) (h1 : 1 ≤ v.length) : maxI (v.map fun y => x - y) = x - minI v := by
  have a : maxI (v.map fun y => x - y) ≤ x - minI v := maxI_le (by simpa using h1) fun i hi => by
    have := minI_all (l := v) (i := i) (by simpa using hi); simp; omega
  have b : x - maxI (v.map fun y => x - y) ≤ minI v := minI_ge h1 fun i hi => by
    have := maxI_all (l := v.map fun y => x - y) (i := i) (by simpa using hi); simp at this; omega
  omega
theorem mean_turn {c v : List Int} {d x : Int} (hd : 1 ≤ d) (hc : Pos c) (h1 : 1 ≤ v.length) (hl : v.length = c.length) :
    lowM c (v.map fun y => x - y) d = x - highM c v d ∧ highM c (v.map fun y => x - y) d = x - lowM c v d := by
  have s := sum_pos c hc
  have hS : sumI c + d ≠ 0 := by omega
  simp only [lowM, highM, shr, if_true]
  rw [if_neg (by decide), dot_turn c v x hl, min_turn v x h1, max_turn v x h1, if_neg (by decide)]
  constructor
  · rw [show d * (x - maxI v) + (x * sumI c - dotI c v) = x * (sumI c + d) + -(d * maxI v + dotI c v) by rw [Int.mul_sub, Int.mul_add, Int.mul_comm x d]; omega, Int.add_comm, Int.add_mul_ediv_right _ _ hS]; omega
  · rw [show -(d * (x - minI v) + (x * sumI c - dotI c v)) = (-x) * (sumI c + d) + (d * minI v + dotI c v) by rw [Int.mul_sub, Int.neg_mul, Int.mul_add, Int.mul_comm x d]; omega, Int.add_comm, Int.add_mul_ediv_right _ _ hS]; omega
end Go.Proofs.Ytjbgdpbeabakiaa
