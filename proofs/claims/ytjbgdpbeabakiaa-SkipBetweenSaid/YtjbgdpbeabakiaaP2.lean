/- Chapter 11, plain laws: the best style against the chosen hope. -/
import Derived.Test.YtjbgdpbeabakiaaKM
namespace Go.Proofs.Ytjbgdpbeabakiaa
open Go.RowKit Go.Shelf
set_option linter.unusedVariables false
set_option linter.unusedSimpArgs false
theorem firstI_max (L : List (Int × Int)) : ∀ k, (∀ i, i < k → (L.getD i (0, 0)).1 ≤ (L.getD (firstI (betH 0) L k) (0, 0)).1) ∧ (∀ i, i < firstI (betH 0) L k → (L.getD i (0, 0)).1 < (L.getD (firstI (betH 0) L k) (0, 0)).1)
  | 0 => ⟨fun i h => by omega, fun i h => by simp [firstI] at h⟩
  | k + 1 => by
    obtain ⟨a, b⟩ := firstI_max L k
    simp only [firstI]
    by_cases e : betH 0 (L.getD k (0, 0)) (L.getD (firstI (betH 0) L k) (0, 0)) = true
    · rw [if_pos e]
      simp [betH] at e
      refine ⟨fun i hi => ?_, fun i hi => ?_⟩
      · by_cases hk : i = k
        · subst hk; exact Int.le_refl _
        · have := a i (by omega)
          simp at this; simp; omega
      · have := a i hi
        simp at this; simp; omega
    · rw [if_neg e]
      simp [betH] at e
      refine ⟨fun i hi => ?_, b⟩
      by_cases hk : i = k
      · subst hk; simpa using e
      · exact a i (by omega)
theorem firstI_min (L : List (Int × Int)) : ∀ k, (∀ i, i < k → (L.getD (firstI (betH 1) L k) (0, 0)).2 ≤ (L.getD i (0, 0)).2) ∧ (∀ i, i < firstI (betH 1) L k → (L.getD (firstI (betH 1) L k) (0, 0)).2 < (L.getD i (0, 0)).2)
  | 0 => ⟨fun i h => by omega, fun i h => by simp [firstI] at h⟩
  | k + 1 => by
    obtain ⟨a, b⟩ := firstI_min L k
    simp only [firstI]
    by_cases e : betH 1 (L.getD k (0, 0)) (L.getD (firstI (betH 1) L k) (0, 0)) = true
    · rw [if_pos e]
      simp [betH] at e
      refine ⟨fun i hi => ?_, fun i hi => ?_⟩
      · by_cases hk : i = k
        · subst hk; exact Int.le_refl _
        · have := a i (by omega)
          simp at this; simp; omega
      · have := a i hi
        simp at this; simp; omega
    · rw [if_neg e]
      simp [betH] at e
      refine ⟨fun i hi => ?_, b⟩
      by_cases hk : i = k
      · subst hk; simpa using e
      · exact a i (by omega)
theorem surelyB_all (h : Int) (L : List (Int × Int)) (a : Nat) : ∀ k, surelyB h L a k = true → ∀ i, i < k → i ≠ a → beatenB h (L.getD i (0, 0)) (L.getD a (0, 0)) = true
  | 0, _, i, hi, _ => by omega
  | k + 1, e, i, hi, hn => by
    simp only [surelyB, Bool.and_eq_true, Bool.or_eq_true, decide_eq_true_eq] at e
    by_cases hk : i = k
    · subst hk; exact e.2.resolve_left hn
    · exact surelyB_all h L a k e.1 i (by omega) hn
theorem foldl_max : ∀ (t : List (Int × Int)) (x : Int × Int), (x.1 ≤ (t.foldl (pickH 0) x).1 ∧ x.2 ≤ (t.foldl (pickH 0) x).2) ∧ (∀ y ∈ t, y.1 ≤ (t.foldl (pickH 0) x).1 ∧ y.2 ≤ (t.foldl (pickH 0) x).2) ∧
    (∃ y ∈ x :: t, y.1 = (t.foldl (pickH 0) x).1) ∧ (∃ y ∈ x :: t, y.2 = (t.foldl (pickH 0) x).2)
  | [], x => by simp
  | z :: t, x => by
    obtain ⟨⟨a1, a2⟩, b, ⟨y, hy, c⟩, ⟨y', hy', c'⟩⟩ := foldl_max t (pickH 0 x z)
    simp only [List.foldl_cons]
    have p1 : (pickH 0 x z).1 = max x.1 z.1 := by simp [pickH]
    have p2 : (pickH 0 x z).2 = max x.2 z.2 := by simp [pickH]
    rw [p1] at a1; rw [p2] at a2
    refine ⟨⟨by omega, by omega⟩, ?_, ?_, ?_⟩
    · intro y hy
      rcases List.mem_cons.1 hy with rfl | hy
      · exact ⟨by omega, by omega⟩
      · exact b y hy
    · rcases List.mem_cons.1 hy with rfl | hy
      · rw [p1] at c
        by_cases hxz : z.1 ≤ x.1
        · exact ⟨x, by simp, by omega⟩
        · exact ⟨z, by simp, by omega⟩
      · exact ⟨y, by simp [hy], c⟩
    · rcases List.mem_cons.1 hy' with rfl | hy'
      · rw [p2] at c'
        by_cases hxz : z.2 ≤ x.2
        · exact ⟨x, by simp, by omega⟩
        · exact ⟨z, by simp, by omega⟩
      · exact ⟨y', by simp [hy'], c'⟩
theorem foldl_min : ∀ (t : List (Int × Int)) (x : Int × Int), ((t.foldl (pickH 1) x).1 ≤ x.1 ∧ (t.foldl (pickH 1) x).2 ≤ x.2) ∧ (∀ y ∈ t, (t.foldl (pickH 1) x).1 ≤ y.1 ∧ (t.foldl (pickH 1) x).2 ≤ y.2) ∧
    (∃ y ∈ x :: t, y.1 = (t.foldl (pickH 1) x).1) ∧ (∃ y ∈ x :: t, y.2 = (t.foldl (pickH 1) x).2)
  | [], x => by simp
  | z :: t, x => by
    obtain ⟨⟨a1, a2⟩, b, ⟨y, hy, c⟩, ⟨y', hy', c'⟩⟩ := foldl_min t (pickH 1 x z)
    simp only [List.foldl_cons]
    have p1 : (pickH 1 x z).1 = min x.1 z.1 := by simp [pickH]
    have p2 : (pickH 1 x z).2 = min x.2 z.2 := by simp [pickH]
    rw [p1] at a1; rw [p2] at a2
    refine ⟨⟨by omega, by omega⟩, ?_, ?_, ?_⟩
    · intro y hy
      rcases List.mem_cons.1 hy with rfl | hy
      · exact ⟨by omega, by omega⟩
      · exact b y hy
    · rcases List.mem_cons.1 hy with rfl | hy
      · rw [p1] at c
        by_cases hxz : x.1 ≤ z.1
        · exact ⟨x, by simp, by omega⟩
        · exact ⟨z, by simp, by omega⟩
      · exact ⟨y, by simp [hy], c⟩
    · rcases List.mem_cons.1 hy' with rfl | hy'
      · rw [p2] at c'
        by_cases hxz : x.2 ≤ z.2
        · exact ⟨x, by simp, by omega⟩
        · exact ⟨z, by simp, by omega⟩
      · exact ⟨y', by simp [hy'], c'⟩
/-- what SkipChosen asks of the hope H, the styles' hopes L, the best one and whether it surely is -/
structure ChosenLaw (h : Int) (H : Int × Int) (L : List (Int × Int)) (b : Nat) (sure : Bool) : Prop where
  lt : b < L.length
  one0 : h = 0 → (L.getD b (0, 0)).1 = H.1 ∧ (L.getD b (0, 0)).2 ≤ H.2
  one1 : h = 1 → (L.getD b (0, 0)).2 = H.2 ∧ H.1 ≤ (L.getD b (0, 0)).1
  lh : ∀ i, i < L.length → (L.getD i (0, 0)).1 ≤ (L.getD i (0, 0)).2
  le0 : h = 0 → ∀ i, i < L.length → (L.getD i (0, 0)).1 ≤ (L.getD b (0, 0)).1 ∧ (i < b → (L.getD i (0, 0)).1 ≠ (L.getD b (0, 0)).1)
  le1 : h = 1 → ∀ i, i < L.length → (L.getD b (0, 0)).2 ≤ (L.getD i (0, 0)).2 ∧ (i < b → (L.getD i (0, 0)).2 ≠ (L.getD b (0, 0)).2)
  sure0 : h = 0 → sure = true → ∀ i, i < L.length → i ≠ b → (L.getD i (0, 0)).2 ≤ (L.getD b (0, 0)).1
  sure1 : h = 1 → sure = true → ∀ i, i < L.length → i ≠ b → (L.getD b (0, 0)).2 ≤ (L.getD i (0, 0)).1
  both : sure = true → L.getD b (0, 0) = H
theorem mem_getD {L : List (Int × Int)} {y : Int × Int} (h : y ∈ L) : ∃ i, i < L.length ∧ L.getD i (0, 0) = y := by
  obtain ⟨i, hi, rfl⟩ := List.mem_iff_getElem.1 h
  exact ⟨i, hi, by simp [hi]⟩
theorem getD_mem {L : List (Int × Int)} {i : Nat} (hi : i < L.length) : L.getD i (0, 0) ∈ L := by
  simp [hi]
theorem chosen_law {h : Int} (hh : h = 0 ∨ h = 1) {L : List (Int × Int)} (h1 : 1 ≤ L.length) (lh : ∀ x ∈ L, x.1 ≤ x.2) :
    ChosenLaw h (chosenH L h) L (bestI h L) (surelyB h L (bestI h L) L.length) := by
  have hlt : bestI h L < L.length := firstI_lt (betH h) L h1 L.length (Nat.le_refl _)
  have hlh : ∀ i, i < L.length → (L.getD i (0, 0)).1 ≤ (L.getD i (0, 0)).2 := fun i hi => lh _ (getD_mem hi)
  have hs := surelyB_all h L (bestI h L) L.length
  rcases hh with rfl | rfl
  · obtain ⟨m1, m2⟩ := firstI_max L L.length
    obtain ⟨c1, c2, ⟨y, hy, c3⟩, ⟨y', hy', c4⟩⟩ : (∀ y ∈ L, y.1 ≤ (chosenH L 0).1) ∧ (∀ y ∈ L, y.2 ≤ (chosenH L 0).2) ∧ (∃ y ∈ L, y.1 = (chosenH L 0).1) ∧ (∃ y ∈ L, y.2 = (chosenH L 0).2) := by
      cases L with
      | nil => simp at h1
      | cons x t =>
        obtain ⟨a, b, c, d⟩ := foldl_max t x
        refine ⟨fun y hy => ?_, fun y hy => ?_, c, d⟩
        · rcases List.mem_cons.1 hy with rfl | hy
          · exact a.1
          · exact (b y hy).1
        · rcases List.mem_cons.1 hy with rfl | hy
          · exact a.2
          · exact (b y hy).2
    change (∀ i, i < L.length → (L.getD i (0, 0)).1 ≤ (L.getD (bestI 0 L) (0, 0)).1) at m1
    change (∀ i, i < bestI 0 L → (L.getD i (0, 0)).1 < (L.getD (bestI 0 L) (0, 0)).1) at m2
    generalize bestI 0 L = b at *
    have g1 := c1 _ (getD_mem hlt)
    have g2 := c2 _ (getD_mem hlt)
    obtain ⟨i, hi, e⟩ := mem_getD hy
    obtain ⟨j, hj, e'⟩ := mem_getD hy'
    have q1 := m1 i hi
    rw [e] at q1
    have q : (L.getD b (0, 0)).1 = (chosenH L 0).1 := by omega
    have sb : surelyB 0 L b L.length = true → ∀ i, i < L.length → i ≠ b → (L.getD i (0, 0)).2 ≤ (L.getD b (0, 0)).1 := fun s i hi hn => by
      have := hs s i hi hn
      simpa [beatenB] using this
    refine ⟨hlt, fun _ => ⟨q, g2⟩, fun e => by omega, hlh, fun _ i hi => ⟨m1 i hi, fun hb => by have := m2 i hb; omega⟩, fun e => by omega, fun _ => sb, fun e => by omega, fun s => ?_⟩
    have q2 : (L.getD b (0, 0)).2 = (chosenH L 0).2 := by
      by_cases hjb : j = b
      · rw [hjb] at e'; rw [e']; exact c4
      · have := sb s j hj hjb
        rw [e'] at this
        have := hlh b hlt
        omega
    exact Prod.ext q q2
  · obtain ⟨m1, m2⟩ := firstI_min L L.length
    obtain ⟨c1, c2, ⟨y, hy, c3⟩, ⟨y', hy', c4⟩⟩ : (∀ y ∈ L, (chosenH L 1).1 ≤ y.1) ∧ (∀ y ∈ L, (chosenH L 1).2 ≤ y.2) ∧ (∃ y ∈ L, y.1 = (chosenH L 1).1) ∧ (∃ y ∈ L, y.2 = (chosenH L 1).2) := by
      cases L with
      | nil => simp at h1
      | cons x t =>
        obtain ⟨a, b, c, d⟩ := foldl_min t x
        refine ⟨fun y hy => ?_, fun y hy => ?_, c, d⟩
        · rcases List.mem_cons.1 hy with rfl | hy
          · exact a.1
          · exact (b y hy).1
        · rcases List.mem_cons.1 hy with rfl | hy
          · exact a.2
          · exact (b y hy).2
    change (∀ i, i < L.length → (L.getD (bestI 1 L) (0, 0)).2 ≤ (L.getD i (0, 0)).2) at m1
    change (∀ i, i < bestI 1 L → (L.getD (bestI 1 L) (0, 0)).2 < (L.getD i (0, 0)).2) at m2
    generalize bestI 1 L = b at *
    have g1 := c1 _ (getD_mem hlt)
    have g2 := c2 _ (getD_mem hlt)
    obtain ⟨i, hi, e⟩ := mem_getD hy
    obtain ⟨j, hj, e'⟩ := mem_getD hy'
    have q1 := m1 j hj
    rw [e'] at q1
    have q : (L.getD b (0, 0)).2 = (chosenH L 1).2 := by omega
    have sb : surelyB 1 L b L.length = true → ∀ i, i < L.length → i ≠ b → (L.getD b (0, 0)).2 ≤ (L.getD i (0, 0)).1 := fun s i hi hn => by
      have := hs s i hi hn
      simpa [beatenB] using this
    refine ⟨hlt, fun e => by omega, fun _ => ⟨q, g1⟩, hlh, fun e => by omega, fun _ i hi => ⟨m1 i hi, fun hb => by have := m2 i hb; omega⟩, fun e => by omega, fun _ => sb, fun s => ?_⟩
    have q2 : (L.getD b (0, 0)).1 = (chosenH L 1).1 := by
      by_cases hjb : i = b
      · rw [hjb] at e; rw [e]; exact c3
      · have := sb s i hi hjb
        rw [e] at this
        have := hlh b hlt
        omega
    exact Prod.ext q2 q
theorem sureH_lh (b : Bool) : (sureH b).1 ≤ (sureH b).2 := by cases b <;> simp [sureH]
theorem pickH_lh {h : Int} {a b : Int × Int} (ha : a.1 ≤ a.2) (hb : b.1 ≤ b.2) : (pickH h a b).1 ≤ (pickH h a b).2 := by
  unfold pickH; split <;> simp <;> omega
theorem foldl_lh {h : Int} : ∀ (l : List (Int × Int)) (x : Int × Int), x.1 ≤ x.2 → (∀ y ∈ l, y.1 ≤ y.2) → (l.foldl (pickH h) x).1 ≤ (l.foldl (pickH h) x).2
  | [], _, hx, _ => hx
  | y :: l, x, hx, hl => foldl_lh l _ (pickH_lh hx (hl y (by simp))) (fun z hz => hl z (by simp [hz]))
theorem chosenH_lh {h : Int} {l : List (Int × Int)} (hl : ∀ y ∈ l, y.1 ≤ y.2) : (chosenH l h).1 ≤ (chosenH l h).2 := by
  cases l with
  | nil => simp [chosenH]
  | cons x t => exact foldl_lh t x (hl x (by simp)) (fun y hy => hl y (by simp [hy]))
theorem stylesH_lh {m : Riv} (hm : rivOk m = true) (n : Nat) (h : Int) {hs : List (Int × Int)} (hl : hs.length = 17) (hh : ∀ x ∈ hs, x.1 ≤ x.2) : ∀ y ∈ stylesH m n h hs, y.1 ≤ y.2 := by
  intro y hy
  simp only [stylesH, List.mem_map] at hy
  obtain ⟨c, hc, rfl⟩ := hy
  obtain ⟨_, hst, d1, d2⟩ := rivOk_st hm h
  obtain ⟨h1, h2⟩ := hst c hc
  obtain ⟨k1, k2⟩ := countsH_ok n h1
  obtain ⟨hC, n1, n2⟩ := Counts.of k1
  refine low_high d1 hC.pos (by simp [fsts]; omega) (by simp [fsts, snds]) fun i hi hi' => ?_
  have hi2 : i < hs.length := by simpa [fsts] using hi
  have := hh hs[i] (List.getElem_mem hi2)
  simpa [fsts, snds] using this
theorem rowH_lh {f : Int → Int × Int} (hf : ∀ p, (f p).1 ≤ (f p).2) : ∀ x ∈ rowH f, x.1 ≤ x.2 := by
  intro x hx
  simp only [rowH, List.mem_map] at hx
  obtain ⟨i, _, rfl⟩ := hx
  exact hf _
theorem hopeH_lh {m : Riv} (hm : rivOk m = true) : ∀ (n : Nat) (l h : Int), (hopeH m n l h).1 ≤ (hopeH m n l h).2
  | 0, l, h => by
    simp only [hopeH]; split
    · exact chosenH_lh (stylesH_lh hm 0 h (rowH_len _) (rowH_lh fun p => sureH_lh _))
    · exact sureH_lh _
  | n + 1, l, h => chosenH_lh (stylesH_lh hm (n + 1) h (rowH_len _) (rowH_lh fun p => hopeH_lh hm n _ _))
theorem stepH_lh {m : Riv} (hm : rivOk m = true) (n : Nat) (l h p : Int) : (stepH m n l h p).1 ≤ (stepH m n l h p).2 := by
  cases n with
  | zero => exact sureH_lh _
  | succ n => exact hopeH_lh hm _ _ _
theorem stylesL_lh {m : Riv} (hm : rivOk m = true) (n : Nat) (l h : Int) : ∀ x ∈ stylesL m n l h, x.1 ≤ x.2 :=
  stylesH_lh hm n h (rowH_len _) (rowH_lh fun p => stepH_lh hm n l h p)
end Go.Proofs.Ytjbgdpbeabakiaa
