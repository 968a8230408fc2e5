/- Pure laws of chances and means between their bounds: throws more, events and the others. -/
import Derived.Test.YtjbgdpbeabakiaaG1
namespace Go.Proofs.Ytjbgdpbeabakiaa
open Go.RowKit Go.Shelf
set_option linter.unusedVariables false
set_option linter.unusedSimpArgs false
/-- the outcome of a throw more -/
def oI (os : List Int) (n i : Nat) : Int := if os.length = 0 then 0 else os.getD (i % os.length) 0 % n
theorem oI_bd {os : List Int} {n i : Nat} (hn : 1 ≤ n) : 0 ≤ oI os n i ∧ oI os n i < n := by
  unfold oI; split
  · omega
  · exact ⟨Int.emod_nonneg _ (by omega), Int.emod_lt_of_pos _ (by omega)⟩
def bump (l : List Int) (j : Nat) : List Int := l.set j (l.getD j 0 + 1)
theorem bump_len (l : List Int) (j : Nat) : (bump l j).length = l.length := by simp [bump]
theorem bump_get (l : List Int) (j i : Nat) : l.getD i 0 ≤ (bump l j).getD i 0 ∧ (bump l j).getD i 0 ≤ l.getD i 0 + 1 := by
  unfold bump
  by_cases h : i < l.length
  · by_cases e : j = i
    · subst e; simp [h]; omega
    · simp [h, List.getElem_set_ne e]; omega
  · simp [h]
def bumps (l os : List Int) : Nat → List Int
  | 0 => l
  | t + 1 => bump (bumps l os t) (oI os l.length t).toNat
theorem bumps_len (l os : List Int) : ∀ t, (bumps l os t).length = l.length
  | 0 => rfl
  | t + 1 => by rw [bumps, bump_len, bumps_len l os t]
theorem bumps_get (l os : List Int) (i : Nat) : ∀ t : Nat, l.getD i 0 ≤ (bumps l os t).getD i 0 ∧ (bumps l os t).getD i 0 ≤ l.getD i 0 + t
  | 0 => by simp [bumps]
  | t + 1 => by
    have ih := bumps_get l os i t
    have := bump_get (bumps l os t) (oI os l.length t).toNat i
    rw [bumps]; omega
theorem bumps_bd {l : List Int} (h : Counts l) (os : List Int) {t : Nat} (ht : t ≤ 100) {i : Nat} (hi : i < (bumps l os t).length) : 0 ≤ (bumps l os t)[i] ∧ (bumps l os t)[i] ≤ 1000100 := by
  have hi' := hi
  rw [bumps_len] at hi'
  have a := bumps_get l os i t
  have b := h i hi'
  have e : l.getD i 0 = l[i] := by simp [hi']
  have e2 : (bumps l os t).getD i 0 = (bumps l os t)[i] := by simp [hi]
  rw [e, e2] at a; omega
theorem dot_bump : ∀ (l v : List Int) (j : Nat), j < l.length → j < v.length → dotI (bump l j) v = dotI l v + v.getD j 0
  | [], _, j, h, _ => by simp at h
  | _ :: _, [], j, _, h => by simp at h
  | a :: l, b :: v, 0, _, _ => by simp [bump, dotI, Int.add_mul]; omega
  | a :: l, b :: v, j + 1, h, h2 => by
    have ih := dot_bump l v j (by simpa using h) (by simpa using h2)
    simp only [bump, List.set_cons_succ, dotI, List.getD_cons_succ] at *
    omega
theorem sumI_cons (a : Int) (l : List Int) : sumI (a :: l) = a + sumI l := by
  have key : ∀ (l : List Int) (z : Int), l.foldl (· + ·) z = z + l.foldl (· + ·) 0 := by
    intro l
    induction l with
    | nil => intro z; simp
    | cons x l ih => intro z; simp only [List.foldl_cons]; rw [ih (z + x), ih (0 + x)]; omega
  unfold sumI
  rw [List.foldl_cons, key]; simp
theorem sum_bump : ∀ (l : List Int) (j : Nat), j < l.length → sumI (bump l j) = sumI l + 1
  | [], j, h => by simp at h
  | a :: l, 0, _ => by simp [bump, sumI_cons]; omega
  | a :: l, j + 1, h => by
    have ih := sum_bump l j (by simpa using h)
    simp only [bump, List.set_cons_succ, List.getD_cons_succ, sumI_cons] at *
    omega
/-- the counts that are marked -/
def pick : List Int → List Bool → Int
  | a :: l, b :: m => (if b then a else 0) + pick l m
  | _, _ => 0
theorem pick_snoc : ∀ (l : List Int) (m : List Bool) (k : Nat) (hk : k < l.length) (hm : k < m.length), pick (l.take (k + 1)) (m.take (k + 1)) = pick (l.take k) (m.take k) + if m[k] then l[k] else 0
  | [], _, k, hk, _ => by simp at hk
  | _ :: _, [], k, _, hm => by simp at hm
  | a :: l, b :: m, 0, _, _ => by simp [pick]
  | a :: l, b :: m, k + 1, hk, hm => by
    have ih := pick_snoc l m k (by simpa using hk) (by simpa using hm)
    simp only [List.take_succ_cons, pick, List.getElem_cons_succ] at *
    omega
theorem pick_set : ∀ (l : List Int) (m : List Bool) (j : Nat), j < l.length → j < m.length → m.getD j false = false → pick l (m.set j true) = pick l m + l.getD j 0
  | [], _, j, hk, _, _ => by simp at hk
  | _ :: _, [], j, _, hm, _ => by simp at hm
  | a :: l, b :: m, 0, _, _, h => by simp at h; simp [pick, h]; omega
  | a :: l, b :: m, j + 1, hk, hm, h => by
    have ih := pick_set l m j (by simpa using hk) (by simpa using hm) (by simpa using h)
    simp only [List.set_cons_succ, pick, List.getD_cons_succ] at *
    omega
theorem pick_bump : ∀ (l : List Int) (m : List Bool) (j : Nat), j < l.length → j < m.length → pick (bump l j) m = pick l m + if m.getD j false then 1 else 0
  | [], _, j, hk, _ => by simp at hk
  | _ :: _, [], j, _, hm => by simp at hm
  | a :: l, b :: m, 0, _, _ => by cases b <;> simp [pick, bump]; omega
  | a :: l, b :: m, j + 1, hk, hm => by
    have ih := pick_bump l m j (by simpa using hk) (by simpa using hm)
    simp only [bump, List.set_cons_succ, pick, List.getD_cons_succ] at *
    omega
def marks (n : Nat) (s : List Int) : List Bool := s.foldl (fun m i => m.set i.toNat true) (List.replicate n false)
theorem marks_snoc (n : Nat) (s : List Int) (k : Nat) (hk : k < s.length) : marks n (s.take (k + 1)) = (marks n (s.take k)).set s[k].toNat true := foldl_snoc _ _ _ _ hk
theorem marks_len (n : Nat) (s : List Int) : (marks n s).length = n := by
  have key : ∀ k, k ≤ s.length → (marks n (s.take k)).length = n := by
    intro k
    induction k with
    | zero => intro _; simp [marks]
    | succ k ih => intro hk; rw [marks_snoc n s k (by omega), List.length_set]; exact ih (by omega)
  have := key s.length (Nat.le_refl _)
  rwa [List.take_length] at this
theorem marks_not (n : Nat) (s : List Int) (j : Nat) : ∀ k, k ≤ s.length → (∀ i, (h : i < s.length) → i < k → s[i].toNat ≠ j) → (marks n (s.take k)).getD j false = false
  | 0, _, _ => by
    simp only [marks, List.take_zero, List.foldl_nil]
    rw [List.getD_eq_getElem?_getD, List.getElem?_replicate]; split <;> rfl
  | k + 1, hk, h => by
    have ih := marks_not n s j k (by omega) fun i hi hik => h i hi (by omega)
    have hne := h k (by omega) (by omega)
    rw [marks_snoc n s k (by omega)]
    rw [List.getD_eq_getElem?_getD, List.getElem?_set_ne hne, ← List.getD_eq_getElem?_getD]; exact ih
theorem event_lt {s : List Int} {n : Int} (h : eventB s n = true) : ∀ d i, (hk : i + d + 1 < s.length) → s[i] < s[i + d + 1]
  | 0, i, hk => by
    have := List.all_eq_true.1 h (i + 1) (List.mem_range.2 hk)
    simp only [evBad, Bool.not_or, Bool.and_eq_true, Bool.not_not, Bool.not_eq_true', Bool.and_eq_false_iff] at this
    have h2 : ¬ s[i + 1] ≤ s[i] := by simpa [hk, show i < s.length from by omega] using this.2
    simpa using h2
  | d + 1, i, hk => by
    have ih := event_lt h d i (by omega)
    have := event_lt h 0 (i + d + 1) (by omega)
    simp only [Nat.add_zero] at this
    have e : s[i + (d + 1) + 1] = s[i + d + 1 + 1] := rfl
    rw [e]; omega
theorem own_pick {l s : List Int} (h : eventB s l.length = true) : ∀ k, k ≤ s.length → ownI l (s.take k) = pick l (marks l.length (s.take k))
  | 0, _ => by
    have : ∀ l : List Int, pick l (List.replicate l.length false) = 0 := by
      intro l
      induction l with
      | nil => rfl
      | cons a l ih => simp [pick, List.replicate_succ, ih]
    simp [ownI, marks, this]
  | k + 1, hk => by
    have ih := own_pick h k (by omega)
    have he := event_at h (k := k) (by omega)
    rw [ownI_snoc l s k (by omega), marks_snoc _ s k (by omega), pick_set _ _ _ (by omega) (by rw [marks_len]; omega), ih]
    refine marks_not _ _ _ k (by omega) fun i hi hik => ?_
    have := event_lt h (k - i - 1) i (by omega)
    have e : i + (k - i - 1) + 1 = k := by omega
    simp only [e] at this
    have hi0 := event_at h (k := i) hi
    omega
theorem own_marks {l s : List Int} (h : eventB s l.length = true) : ownI l s = pick l (marks l.length s) := by
  have := own_pick h s.length (Nat.le_refl _); rwa [List.take_length] at this
/-- the others: the places that are not marked -/
def rest (m : List Bool) (k : Nat) : List Int := ((List.range k).filter fun i => !m.getD i false).map fun i : Nat => (i : Int)
theorem rest_snoc (m : List Bool) (k : Nat) : rest m (k + 1) = rest m k ++ if m.getD k false then [] else [(k : Int)] := by
  unfold rest
  rw [List.range_succ, List.filter_append, List.map_append]
  congr 1
  rw [List.filter_cons, List.filter_nil]
  cases m.getD k false <;> rfl
theorem rest_len (m : List Bool) : ∀ k, (rest m k).length ≤ k
  | 0 => by simp [rest]
  | k + 1 => by have := rest_len m k; rw [rest_snoc]; split <;> simp <;> omega
theorem rest_event (m : List Bool) (n : Nat) : eventB (rest m n) n = true := by
  have hp : (rest m n).Pairwise (· < ·) := by
    unfold rest
    rw [List.pairwise_map]
    exact (List.Pairwise.filter _ List.pairwise_lt_range).imp fun h => by omega
  have hb : ∀ x ∈ rest m n, 0 ≤ x ∧ x < n := by
    intro x hx
    simp only [rest, List.mem_map, List.mem_filter, List.mem_range] at hx
    obtain ⟨i, ⟨h1, _⟩, rfl⟩ := hx
    omega
  refine eventB_ok fun j hj => ?_
  have hg : (rest m n).getD j 0 = (rest m n)[j] := by simp [hj]
  have := hb _ (List.getElem_mem hj)
  have e1 : inR (rest m n)[j] 0 ((n : Int) - 1) = true := inR_iff.2 ⟨by omega, by omega⟩
  unfold evBad
  rw [hg, e1]
  by_cases h0 : 0 < j
  · have hg' : (rest m n).getD (j - 1) 0 = (rest m n)[j - 1] := by simp [show j - 1 < (rest m n).length from by omega]
    rw [hg']
    have := List.pairwise_iff_getElem.1 hp (j - 1) j (by omega) hj (by omega)
    simp; omega
  · simp [h0]
theorem own_append (l a b : List Int) : ownI l (a ++ b) = ownI l a + ownI l b := by
  have key : ∀ (b : List Int) (z : Int), b.foldl (fun a i => a + l.getD i.toNat 0) z = z + b.foldl (fun a i => a + l.getD i.toNat 0) 0 := by
    intro b
    induction b with
    | nil => intro z; simp
    | cons x b ih => intro z; simp only [List.foldl_cons]; rw [ih (z + _), ih (0 + _)]; omega
  unfold ownI
  rw [List.foldl_append, key]
theorem rest_pick (l : List Int) (m : List Bool) (hm : m.length = l.length) : ∀ k, k ≤ l.length → ownI l (rest m k) + pick (l.take k) (m.take k) = sumI (l.take k)
  | 0, _ => by simp [rest, ownI, pick, sumI]
  | k + 1, hk => by
    have ih := rest_pick l m hm k (by omega)
    rw [pick_snoc l m k (by omega) (by omega), sumI_snoc l k (by omega), rest_snoc, own_append]
    have e : m.getD k false = m[k] := by simp [show k < m.length from by omega]
    rw [e]
    have e2 : l[k]?.getD 0 = l[k] := by simp [show k < l.length from by omega]
    cases m[k] <;> simp [ownI, e2] at * <;> omega
theorem rest_sum {l s : List Int} (h : eventB s l.length = true) : ownI l (rest (marks l.length s) l.length) + ownI l s = sumI l := by
  have := rest_pick l (marks l.length s) (marks_len _ _) l.length (Nat.le_refl _)
  rw [List.take_length, show (marks l.length s).take l.length = marks l.length s from by
    have e := marks_len l.length s
    exact List.take_of_length_le (by omega)] at this
  rw [own_marks h]; exact this
theorem own_ones (n : Nat) (s : List Int) (h : eventB s n = true) : ∀ k, k ≤ s.length → ownI (List.replicate n 1) (s.take k) = k
  | 0, _ => by simp [ownI]
  | k + 1, hk => by
    have ih := own_ones n s h k (by omega)
    have he := event_at h (k := k) (by omega)
    rw [ownI_snoc _ s k (by omega), ih]
    have : (List.replicate n (1 : Int)).getD s[k].toNat 0 = 1 := by
      rw [List.getD_eq_getElem?_getD, List.getElem?_replicate, if_pos (by omega)]; rfl
    rw [this]; omega
theorem own_ones_all (n : Nat) (s : List Int) (h : eventB s n = true) : ownI (List.replicate n 1) s = s.length := by
  have := own_ones n s h s.length (Nat.le_refl _); rwa [List.take_length] at this
theorem sum_ones : ∀ n : Nat, sumI (List.replicate n 1) = n
  | 0 => rfl
  | n + 1 => by rw [List.replicate_succ, sumI_cons, sum_ones n]; omega
/-- the places of an event and those of the others are all there are -/
theorem rest_many {n : Nat} {s : List Int} (h : eventB s n = true) : (rest (marks n s) n).length + s.length = n := by
  have e : (List.replicate n (1 : Int)).length = n := by simp
  have := rest_sum (l := List.replicate n 1) (s := s) (by rw [e]; exact h)
  rw [e, own_ones_all n s h, own_ones_all n _ (rest_event _ n), sum_ones] at this
  omega
theorem bumps_sum (l os : List Int) (hl : 1 ≤ l.length) : ∀ t : Nat, sumI (bumps l os t) = sumI l + t
  | 0 => by simp [bumps]
  | t + 1 => by
    have ih := bumps_sum l os hl t
    have := oI_bd (os := os) (n := l.length) (i := t) hl
    rw [bumps, sum_bump _ _ (by rw [bumps_len]; omega), ih]; omega
theorem bumps_pick (l os : List Int) (m : List Bool) (hl : 1 ≤ l.length) (hm : m.length = l.length) : ∀ t : Nat, pick l m ≤ pick (bumps l os t) m ∧ pick (bumps l os t) m ≤ pick l m + t
  | 0 => by simp [bumps]
  | t + 1 => by
    have ih := bumps_pick l os m hl hm t
    have := oI_bd (os := os) (n := l.length) (i := t) hl
    rw [bumps, pick_bump _ _ _ (by rw [bumps_len]; omega) (by omega)]
    split <;> omega
theorem minI_le (l : List Int) : ∀ k, k ≤ l.length → ∀ i, (h : i < l.length) → i < k → minI (l.take k) ≤ l[i]
  | 0, _, _, _, h => by omega
  | k + 1, hk, i, hi, hik => by
    by_cases h1 : 1 ≤ k
    · rw [minI_snoc l k (by omega) h1]
      by_cases e : i = k
      · subst e; unfold minF; split <;> omega
      · have := minI_le l k (by omega) i hi (by omega)
        unfold minF; split <;> omega
    · obtain rfl : k = 0 := by omega
      obtain rfl : i = 0 := by omega
      cases l with
      | nil => simp at hi
      | cons x t => simp [minI]
theorem maxI_ge (l : List Int) : ∀ k, k ≤ l.length → ∀ i, (h : i < l.length) → i < k → l[i] ≤ maxI (l.take k)
  | 0, _, _, _, h => by omega
  | k + 1, hk, i, hi, hik => by
    by_cases h1 : 1 ≤ k
    · rw [maxI_snoc l k (by omega) h1]
      by_cases e : i = k
      · subst e; unfold maxF; split <;> omega
      · have := maxI_ge l k (by omega) i hi (by omega)
        unfold maxF; split <;> omega
    · obtain rfl : k = 0 := by omega
      obtain rfl : i = 0 := by omega
      cases l with
      | nil => simp at hi
      | cons x t => simp [maxI]
theorem minI_all {l : List Int} {i : Nat} (h : i < l.length) : minI l ≤ l[i] := by
  have := minI_le l l.length (Nat.le_refl _) i h h; rwa [List.take_length] at this
theorem maxI_all {l : List Int} {i : Nat} (h : i < l.length) : l[i] ≤ maxI l := by
  have := maxI_ge l l.length (Nat.le_refl _) i h h; rwa [List.take_length] at this
theorem bumps_dot (l os v : List Int) (hl : 1 ≤ l.length) (hv : v.length = l.length) : ∀ t : Nat, t * minI v ≤ dotI (bumps l os t) v - dotI l v ∧ dotI (bumps l os t) v - dotI l v ≤ t * maxI v
  | 0 => by simp [bumps]
  | t + 1 => by
    have ih := bumps_dot l os v hl hv t
    have hb := oI_bd (os := os) (n := l.length) (i := t) hl
    have hj : (oI os l.length t).toNat < v.length := by omega
    have a := minI_all hj
    have b := maxI_all hj
    rw [bumps, dot_bump _ _ _ (by rw [bumps_len]; omega) hj]
    have e : v.getD (oI os l.length t).toNat 0 = v[(oI os l.length t).toNat] := by simp [hj]
    rw [e, Int.natCast_succ, Int.add_mul, Int.add_mul]
    omega
/-- the stage's theorem, of chances -/
theorem between_chance {l s os : List Int} {t : Nat} (ht : 1 ≤ t) (h : chanceOk l s t = true) :
    chanceOk l (rest (marks l.length s) l.length) t = true ∧ sumI l + t = sumI (bumps l os t) ∧ lowC l s t ≤ pick (bumps l os t) (marks l.length s) ∧ pick (bumps l os t) (marks l.length s) ≤ highC l s t ∧
    lowC l s t + highC l (rest (marks l.length s) l.length) t = sumI (bumps l os t) ∧ highC l s t + lowC l (rest (marks l.length s) l.length) t = sumI (bumps l os t) := by
  have h' := h
  simp only [chanceOk, Bool.and_eq_true] at h
  obtain ⟨⟨hc, he⟩, hd⟩ := h
  obtain ⟨hC, n1, n2⟩ := Counts.of hc
  have hs := bumps_sum l os n1 t
  have hp := bumps_pick l os (marks l.length s) n1 (marks_len _ _) t
  rw [← own_marks he] at hp
  have hr := rest_sum he
  have hm := rest_many he
  have hre := rest_event (marks l.length s) l.length
  refine ⟨by simp [chanceOk, hc, hre, hd], by omega, ?_⟩
  have hx := rest_pick (bumps l os t) (marks l.length s) (by rw [marks_len, bumps_len]) (bumps l os t).length (Nat.le_refl _)
  rw [List.take_length, bumps_len, show (marks l.length s).take l.length = marks l.length s from List.take_of_length_le (by rw [marks_len]; omega)] at hx
  by_cases z : s.length = 0
  · have hs0 : s = [] := List.length_eq_zero_iff.1 z
    have e0 : ownI l s = 0 := by rw [hs0]; rfl
    have ef : ownI (bumps l os t) (rest (marks l.length s) l.length) = sumI (bumps l os t) := own_full (by rw [bumps_len]; exact hre) (by rw [bumps_len]; omega)
    have l1 : lowC l s t = 0 := by rw [lowC, if_pos z, e0]
    have l2 : highC l s t = 0 := by rw [highC, if_pos z]
    have l3 : lowC l (rest (marks l.length s) l.length) t = sumI l + t := by rw [lowC, if_neg (by omega), if_pos (by omega)]
    have l4 : highC l (rest (marks l.length s) l.length) t = ownI l (rest (marks l.length s) l.length) + t := by rw [highC, if_neg (by omega)]
    rw [l1, l2, l3, l4]
    omega
  · by_cases f : s.length = l.length
    · have r0 : (rest (marks l.length s) l.length).length = 0 := by omega
      have rn : rest (marks l.length s) l.length = [] := List.length_eq_zero_iff.1 r0
      rw [rn] at hx hr ⊢
      have e0 : ∀ l : List Int, ownI l [] = 0 := fun _ => rfl
      rw [e0] at hx hr
      have l1 : lowC l s t = sumI l + t := by rw [lowC, if_neg z, if_pos f]
      have l2 : highC l s t = ownI l s + t := by rw [highC, if_neg z]
      have l3 : lowC l [] t = 0 := rfl
      have l4 : highC l [] t = 0 := rfl
      rw [l1, l2, l3, l4]
      omega
    · have l1 : lowC l s t = ownI l s := by rw [lowC, if_neg z, if_neg f]
      have l2 : highC l s t = ownI l s + t := by rw [highC, if_neg z]
      have l3 : lowC l (rest (marks l.length s) l.length) t = ownI l (rest (marks l.length s) l.length) := by rw [lowC, if_neg (by omega), if_neg (by omega)]
      have l4 : highC l (rest (marks l.length s) l.length) t = ownI l (rest (marks l.length s) l.length) + t := by rw [highC, if_neg (by omega)]
      rw [l1, l2, l3, l4]
      omega
/-- .. of means -/
theorem between_mean {l v os : List Int} {t : Nat} (ht : 1 ≤ t) (h : meanOk l v t = true) :
    lowM l v t * sumI (bumps l os t) ≤ dotI (bumps l os t) v ∧ dotI (bumps l os t) v ≤ highM l v t * sumI (bumps l os t) := by
  simp only [meanOk, Bool.and_eq_true, decide_eq_true_eq] at h
  obtain ⟨⟨⟨hc, hv⟩, _⟩, hd⟩ := h
  obtain ⟨hC, n1, n2⟩ := Counts.of hc
  have hs := bumps_sum l os n1 t
  have hp := bumps_dot l os v n1 hv t
  have h0 := (sumI_bd l hC l.length (Nat.le_refl _)).1
  rw [List.take_length] at h0
  rw [hs]
  have hS : 0 < sumI l + t := by omega
  constructor
  · have := Int.ediv_mul_le (t * minI v + dotI l v) (show sumI l + t ≠ 0 by omega)
    simp only [lowM, shr, if_true]; omega
  · have := Int.ediv_mul_le (-(t * maxI v + dotI l v)) (show sumI l + t ≠ 0 by omega)
    simp only [highM, shr]
    rw [if_neg (by decide), Int.neg_mul]; omega
end Go.Proofs.Ytjbgdpbeabakiaa
