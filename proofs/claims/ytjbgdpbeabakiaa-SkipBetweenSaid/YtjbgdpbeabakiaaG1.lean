/- Pure laws of means and chances: better counts, more throws. -/
import Derived.Test.YtjbgdpbeabakiaaS5
namespace Go.Proofs.Ytjbgdpbeabakiaa
open Go.RowKit Go.Shelf
set_option linter.unusedVariables false
set_option linter.unusedSimpArgs false
theorem dot_more (a b v : List Int) (hl : a.length = b.length) (hv : v.length = a.length) (hm : ∀ i, i + 1 < v.length → v.getD i 0 ≤ v.getD (i + 1) 0) (hp : ∀ k, k < a.length → 0 ≤ moreI a b (k + 1)) :
    ∀ k, k + 1 ≤ a.length → -(moreI a b (k + 1) * v.getD k 0) ≤ dotI (a.take (k + 1)) (v.take (k + 1)) - dotI (b.take (k + 1)) (v.take (k + 1))
  | 0, h => by
    rw [dotI_snoc a v 0 (by omega) (by omega), dotI_snoc b v 0 (by omega) (by omega)]
    simp only [moreI, List.take_zero, dotI]
    have e1 : a.getD 0 0 = a[0] := by simp [show 0 < a.length from by omega]
    have e2 : b.getD 0 0 = b[0]'(by omega) := by simp [show 0 < b.length from by omega]
    have e3 : v.getD 0 0 = v[0]'(by omega) := by simp [show 0 < v.length from by omega]
    rw [e1, e2, e3]
    simp only [Int.zero_add, Int.sub_mul]
    omega
  | k + 1, h => by
    have ih := dot_more a b v hl hv hm hp k (by omega)
    rw [dotI_snoc a v (k + 1) (by omega) (by omega), dotI_snoc b v (k + 1) (by omega) (by omega)]
    have e1 : a.getD (k + 1) 0 = a[k + 1] := by simp [show k + 1 < a.length from by omega]
    have e2 : b.getD (k + 1) 0 = b[k + 1]'(by omega) := by simp [show k + 1 < b.length from by omega]
    have e3 : v.getD (k + 1) 0 = v[k + 1]'(by omega) := by simp [show k + 1 < v.length from by omega]
    have hs := hm k (by omega)
    have h0 := hp k (by omega)
    have hmul := Int.mul_le_mul_of_nonneg_left hs h0
    rw [show moreI a b (k + 1 + 1) = moreI a b (k + 1) + (b.getD (k + 1) 0 - a.getD (k + 1) 0) from rfl, e1, e2, e3]
    rw [e3] at hmul
    simp only [Int.add_mul, Int.sub_mul]
    omega
theorem dot_ge (a b v : List Int) (hl : a.length = b.length) (hv : v.length = a.length) (hpos : 1 ≤ a.length) (hm : ∀ i, i + 1 < v.length → v.getD i 0 ≤ v.getD (i + 1) 0) (hb : betterB a b = true) : dotI b v ≤ dotI a v := by
  unfold betterB at hb
  rw [Bool.and_eq_true] at hb
  have hp : ∀ k, k < a.length → 0 ≤ moreI a b (k + 1) := fun k hk => by simpa using List.all_eq_true.1 hb.1 k (List.mem_range.2 hk)
  have h0 : moreI a b a.length = 0 := by simpa using hb.2
  obtain ⟨n, hn⟩ : ∃ n, a.length = n + 1 := ⟨a.length - 1, by omega⟩
  have h := dot_more a b v hl hv hm hp n (by omega)
  rw [← hn, h0] at h
  rw [List.take_length, show v.take a.length = v by rw [← hv]; exact List.take_length, show b.take a.length = b by rw [hl]; exact List.take_length] at h
  omega
/-- better counts have no lesser bounds of their mean -/
theorem better_mean {a b v : List Int} {d : Int} (hd : 1 ≤ d) (ca : Counts a) (hl : a.length = b.length) (hv : v.length = a.length) (hpos : 1 ≤ a.length) (hm : ∀ i, i + 1 < v.length → v.getD i 0 ≤ v.getD (i + 1) 0) (hsum : sumI a = sumI b) (hb : betterB a b = true) :
    lowM b v d ≤ lowM a v d ∧ highM b v d ≤ highM a v d := by
  have hdot := dot_ge a b v hl hv hpos hm hb
  have hs := (sumI_bd a ca a.length (Nat.le_refl _)).1
  rw [List.take_length] at hs
  have hS : 0 < sumI a + d := by omega
  constructor
  · simp only [lowM, shr, if_true, ← hsum]
    exact Int.ediv_le_ediv hS (by omega)
  · simp only [highM, shr, ← hsum]
    rw [if_neg (by decide), if_neg (by decide)]
    have := Int.ediv_le_ediv hS (show -(d * maxI v + dotI a v) ≤ -(d * maxI v + dotI b v) by omega)
    omega
/-- an event with all outcomes holds them in a row -/
theorem event_lo {s : List Int} {n : Int} (h : eventB s n = true) : ∀ k, (hk : k < s.length) → (k : Int) ≤ s[k]
  | 0, hk => (event_at h hk).1
  | k + 1, hk => by
    have ih := event_lo h k (by omega)
    have := List.all_eq_true.1 h (k + 1) (List.mem_range.2 hk)
    simp only [evBad, Bool.not_or, Bool.and_eq_true, Bool.not_not, Bool.not_eq_true', Bool.and_eq_false_iff] at this
    have h2 : ¬ s[k + 1] ≤ s[k] := by simpa [hk, show k < s.length from by omega] using this.2
    omega
theorem event_hi {s : List Int} {n : Int} (h : eventB s n = true) (hl : (s.length : Int) = n) : ∀ j k, (hk : k < s.length) → s.length - 1 - k = j → s[k] ≤ (k : Int)
  | 0, k, hk, e => by have := (event_at h hk).2; omega
  | j + 1, k, hk, e => by
    have ih := event_hi h hl j (k + 1) (by omega) (by omega)
    have := List.all_eq_true.1 h (k + 1) (List.mem_range.2 (by omega))
    simp only [evBad, Bool.not_or, Bool.and_eq_true, Bool.not_not, Bool.not_eq_true', Bool.and_eq_false_iff] at this
    have h2 : ¬ s[k + 1] ≤ s[k] := by simpa [show k + 1 < s.length from by omega, hk] using this.2
    omega
theorem own_full {l s : List Int} (h : eventB s l.length = true) (hl : s.length = l.length) : ownI l s = sumI l := by
  have key : ∀ k, k ≤ s.length → ownI l (s.take k) = sumI (l.take k) := by
    intro k
    induction k with
    | zero => intro _; simp [ownI, sumI]
    | succ k ih =>
      intro hk
      have e : s[k] = (k : Int) := by
        have a := event_lo h k (by omega)
        have b := event_hi h (by omega) _ k (by omega) rfl
        omega
      rw [ownI_snoc l s k (by omega), sumI_snoc l k (by omega), ih (by omega), e]
      simp [show k < l.length from by omega]
  have := key s.length (Nat.le_refl _)
  rw [List.take_length, hl, List.take_length] at this
  exact this
/-- more throws: the bounds come no farther apart -/
theorem grows_chance {l m s : List Int} {d t : Int} (hd : 1 ≤ d) (ht : 1 ≤ t) (hlen : m.length = l.length) (hs : eventB s l.length = true) (cl : Counts l) (hsum : sumI m = t * sumI l) :
    (highC m s d - lowC m s d) * (sumI l + d) ≤ (highC l s d - lowC l s d) * (sumI m + d) := by
  have h0 := (sumI_bd l cl l.length (Nat.le_refl _)).1
  rw [List.take_length] at h0
  have hge : sumI l ≤ sumI m := by
    have := Int.mul_le_mul_of_nonneg_right ht h0
    omega
  unfold highC lowC
  by_cases z : s.length = 0
  · have : s = [] := List.length_eq_zero_iff.1 z
    subst this
    simp [ownI]
  · simp only [if_neg z]
    by_cases f : s.length = l.length
    · have o1 := own_full hs f
      have o2 : ownI m s = sumI m := own_full (by rw [hlen]; exact hs) (by omega)
      rw [if_pos f, if_pos (by omega), o1, o2]
      simp
    · rw [if_neg f, if_neg (by omega)]
      rw [show ownI m s + d - ownI m s = d by omega, show ownI l s + d - ownI l s = d by omega]
      exact Int.mul_le_mul_of_nonneg_left (by omega) (by omega)
end Go.Proofs.Ytjbgdpbeabakiaa
