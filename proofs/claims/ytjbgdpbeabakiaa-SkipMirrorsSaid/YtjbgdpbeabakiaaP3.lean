/- Chapter 11, plain laws: the teams change places. -/
import Derived.Test.YtjbgdpbeabakiaaKM
namespace Go.Proofs.Ytjbgdpbeabakiaa
open Go.RowKit Go.Shelf
set_option linter.unusedVariables false
set_option linter.unusedSimpArgs false
def turnR (m : Riv) : Riv := ⟨m.b, m.a, m.d⟩
def turnH (x : Int × Int) : Int × Int := (65536 - x.2, 65536 - x.1)
theorem turnR_st (m : Riv) {h : Int} (hh : h = 0 ∨ h = 1) : (turnR m).st (1 - h) = m.st h := by
  rcases hh with rfl | rfl <;> simp [Riv.st, turnR]
theorem turnR_ok (m : Riv) : rivOk (turnR m) = rivOk m := by
  simp only [rivOk, turnR]
  cases stylesOk m.a <;> cases stylesOk m.b <;> rfl
theorem stOk_turn (n l h : Int) : stOk n (-l) (1 - h) = stOk n l h := by
  rw [Bool.eq_iff_iff]
  simp only [stOk, Bool.and_eq_true, inR_iff]
  omega
theorem meanH_turn {c : List Int} {d : Int} {l : List (Int × Int)} (hd : 1 ≤ d) (hc : Pos c) (h1 : 1 ≤ l.length) (hl : l.length = c.length) : meanH c d (l.map turnH) = turnH (meanH c d l) := by
  have e1 : fsts (l.map turnH) = (snds l).map fun y => 65536 - y := by simp [fsts, snds, turnH]
  have e2 : snds (l.map turnH) = (fsts l).map fun y => 65536 - y := by simp [fsts, snds, turnH]
  have a := mean_turn (c := c) (v := snds l) (d := d) (x := 65536) hd hc (by simpa [snds] using h1) (by simpa [snds] using hl)
  have b := mean_turn (c := c) (v := fsts l) (d := d) (x := 65536) hd hc (by simpa [fsts] using h1) (by simpa [fsts] using hl)
  simp only [meanH, e1, e2, turnH, a.1, b.2]
theorem pickH_turn {h : Int} (hh : h = 0 ∨ h = 1) (a b : Int × Int) : pickH (1 - h) (turnH a) (turnH b) = turnH (pickH h a b) := by
  rcases hh with rfl | rfl <;> simp [pickH, turnH] <;> omega
theorem foldl_turn {h : Int} (hh : h = 0 ∨ h = 1) : ∀ (t : List (Int × Int)) (x : Int × Int), (t.map turnH).foldl (pickH (1 - h)) (turnH x) = turnH (t.foldl (pickH h) x)
  | [], _ => rfl
  | y :: t, x => by simp only [List.map_cons, List.foldl_cons, pickH_turn hh, foldl_turn hh t]
theorem chosenH_turn {h : Int} (hh : h = 0 ∨ h = 1) {L : List (Int × Int)} (h1 : 1 ≤ L.length) : chosenH (L.map turnH) (1 - h) = turnH (chosenH L h) := by
  cases L with
  | nil => simp at h1
  | cons x t => exact foldl_turn hh t x
theorem nextL_turn (l p : Int) {h : Int} (hh : h = 0 ∨ h = 1) : nextL (-l) (1 - h) p = - nextL l h p := by
  rcases hh with rfl | rfl <;> simp [nextL, clampL] <;> omega
theorem nextH_turn (p h : Int) : nextH (1 - h) p = 1 - nextH h p := by
  unfold nextH; split <;> omega
theorem sureH_turn {l : Int} (h : l ≠ 0) : sureH (decide (0 < -l)) = turnH (sureH (decide (0 < l))) := by
  by_cases h1 : 0 < l
  · have : ¬ 0 < -l := by omega
    simp [h1, this, sureH, turnH]; omega
  · have : 0 < -l := by omega
    simp [h1, this, sureH, turnH]; omega
theorem dot_eq : ∀ (c u v : List Int), u.length = v.length → (∀ i, (h : i < c.length) → (h1 : i < u.length) → (h2 : i < v.length) → c[i] = 0 ∨ u[i] = v[i]) → dotI c u = dotI c v
  | [], _, _, _, _ => by simp [dotI]
  | _ :: _, [], [], _, _ => by simp [dotI]
  | _ :: _, [], _ :: _, h, _ => by simp at h
  | _ :: _, _ :: _, [], h, _ => by simp at h
  | a :: c, x :: u, y :: v, hl, h => by
    have ih := dot_eq c u v (by simpa using hl) (fun i h0 h1 h2 => by have := h (i + 1) (by simpa using h0) (by simpa using h1) (by simpa using h2); rwa [List.getElem_cons_succ, List.getElem_cons_succ, List.getElem_cons_succ] at this)
    have h0 := h 0 (by simp) (by simp) (by simp)
    simp at h0
    simp only [dotI, ih]
    rcases h0 with rfl | rfl <;> simp
/-- the mean of a style in an extra end, the teams changed -/
theorem end_turn {c : List Int} {d : Int} {h : Int} (hd : 1 ≤ d) (hc : Pos c) (h17 : c.length = 17) (h8 : c[8]'(by omega) = 0) (hh : h = 0 ∨ h = 1) :
    meanH c d (rowH (endH (1 - h))) = turnH (meanH c d (rowH (endH h))) := by
  rw [← meanH_turn hd hc (by rw [rowH_len]; omega) (by rw [rowH_len]; omega)]
  have key : ∀ u v : List Int, u.length = 17 → v.length = 17 → minI u = minI v → maxI u = maxI v → (∀ i, i ≠ 8 → u.getD i 0 = v.getD i 0) → lowM c u d = lowM c v d ∧ highM c u d = highM c v d := fun u v h1 h2 h3 h4 h5 => by
    have : dotI c u = dotI c v := dot_eq c u v (by omega) fun i hi q1 q2 => by
      by_cases e : i = 8
      · subst e; exact .inl h8
      · have := h5 i e
        simp [q1, q2] at this
        exact .inr this
    simp only [lowM, highM, this, h3, h4, and_self]
  have K : ∀ u v : List (Int × Int), u.length = 17 → v.length = 17 → minI (fsts u) = minI (fsts v) → maxI (snds u) = maxI (snds v) → minI (snds u) = minI (snds v) → maxI (fsts u) = maxI (fsts v) → (∀ i, i ≠ 8 → u.getD i (0, 0) = v.getD i (0, 0)) → meanH c d u = meanH c d v := fun u v h1 h2 h3 h4 h5 h6 h7 => by
    have g : ∀ (f : Int × Int → Int) (l : List (Int × Int)), f (0, 0) = 0 → ∀ i, (l.map f).getD i 0 = f (l.getD i (0, 0)) := fun f l hf i => by
      by_cases hi : i < l.length
      · simp [hi]
      · simp [Nat.not_lt.1 hi, hf]
    have a := key (fsts u) (fsts v) (by simpa [fsts] using h1) (by simpa [fsts] using h2) h3 h6 (fun i hi => by simp only [fsts]; rw [g _ _ rfl, g _ _ rfl, h7 i hi])
    have b := key (snds u) (snds v) (by simpa [snds] using h1) (by simpa [snds] using h2) h5 h4 (fun i hi => by simp only [snds]; rw [g _ _ rfl, g _ _ rfl, h7 i hi])
    simp only [meanH, a.1, b.2]
  have G : ∀ u v : List (Int × Int), u.length = 17 → v.length = 17 → (∀ i : Fin 17, i.val ≠ 8 → u.getD i.val (0, 0) = v.getD i.val (0, 0)) → ∀ i, i ≠ 8 → u.getD i (0, 0) = v.getD i (0, 0) := fun u v h1 h2 h i hi => by
    by_cases hlt : i < 17
    · exact h ⟨i, hlt⟩ hi
    · simp [show u.length ≤ i by omega, show v.length ≤ i by omega]
  rcases hh with rfl | rfl
  · exact K _ _ (rowH_len _) (by rw [List.length_map]; exact rowH_len _) (by decide) (by decide) (by decide) (by decide) (G _ _ (rowH_len _) (by rw [List.length_map]; exact rowH_len _) (by decide))
  · exact K _ _ (rowH_len _) (by rw [List.length_map]; exact rowH_len _) (by decide) (by decide) (by decide) (by decide) (G _ _ (rowH_len _) (by rw [List.length_map]; exact rowH_len _) (by decide))
theorem rowH_map (f : Int → Int × Int) (g : Int × Int → Int × Int) : (rowH f).map g = rowH fun p => g (f p) := by simp [rowH]
/-- the styles' hopes, if what follows is turned -/
theorem stylesH_turn {m : Riv} (hm : rivOk m = true) (n : Nat) {h : Int} (hh : h = 0 ∨ h = 1) {f g : Int → Int × Int} (hfg : (n ≠ 0 ∧ ∀ p, g p = turnH (f p)) ∨ (n = 0 ∧ f = endH h ∧ g = endH (1 - h))) :
    stylesH (turnR m) n (1 - h) (rowH g) = (stylesH m n h (rowH f)).map turnH := by
  simp only [stylesH, turnR_st m hh, List.map_map]
  refine List.map_congr_left fun c hc => ?_
  obtain ⟨_, hst, d1, d2⟩ := rivOk_st hm h
  obtain ⟨k1, k2⟩ := hst c hc
  obtain ⟨q1, q2⟩ := countsH_ok n k1
  have hp := (Counts.of q1).1.pos
  show meanH (countsH n c) m.d (rowH g) = turnH (meanH (countsH n c) m.d (rowH f))
  rcases hfg with ⟨hn, hfg⟩ | ⟨hn, rfl, rfl⟩
  · rw [← meanH_turn d1 hp (by rw [rowH_len]; omega) (by rw [rowH_len]; omega), rowH_map]
    congr 2
    exact funext hfg
  · exact end_turn d1 hp (by omega) (by simp [countsH, hn]) hh
theorem hopeH_turn {m : Riv} (hm : rivOk m = true) : ∀ (n : Nat) (l h : Int), (h = 0 ∨ h = 1) → hopeH (turnR m) n (-l) (1 - h) = turnH (hopeH m n l h)
  | 0, l, h, hh => by
    by_cases hl : l = 0
    · subst hl
      simp only [hopeH, Int.neg_zero, if_true]
      rw [stylesH_turn hm 0 hh (.inr ⟨rfl, rfl, rfl⟩), chosenH_turn hh (by rw [stylesH_len]; exact (rivOk_st hm h).1.1)]
    · have : ¬ -l = 0 := by omega
      simp only [hopeH, hl, this, if_false]
      exact sureH_turn hl
  | n + 1, l, h, hh => by
    simp only [hopeH]
    rw [stylesH_turn hm (n + 1) hh (.inl ⟨by omega, fun p => ?_⟩), chosenH_turn hh (by rw [stylesH_len]; exact (rivOk_st hm h).1.1)]
    rw [nextL_turn l p hh, nextH_turn]
    exact hopeH_turn hm n _ _ (nextH_bd p hh)
theorem stylesL_turn {m : Riv} (hm : rivOk m = true) (n : Nat) (l : Int) {h : Int} (hh : h = 0 ∨ h = 1) : stylesL (turnR m) n (-l) (1 - h) = (stylesL m n l h).map turnH := by
  unfold stylesL
  refine stylesH_turn hm n hh ?_
  cases n with
  | zero => exact .inr ⟨rfl, rfl, rfl⟩
  | succ n =>
    refine .inl ⟨by omega, fun p => ?_⟩
    show hopeH (turnR m) n (nextL (-l) (1 - h) p) (nextH (1 - h) p) = turnH (hopeH m n (nextL l h p) (nextH h p))
    rw [nextL_turn l p hh, nextH_turn]
    exact hopeH_turn hm n _ _ (nextH_bd p hh)
theorem betH_turn {h : Int} (hh : h = 0 ∨ h = 1) (a b : Int × Int) : betH (1 - h) (turnH a) (turnH b) = betH h a b := by
  rcases hh with rfl | rfl <;> simp [betH, turnH] <;> omega
theorem getD_turn (L : List (Int × Int)) {i : Nat} (hi : i < L.length) : (L.map turnH).getD i (0, 0) = turnH (L.getD i (0, 0)) := by simp [hi]
theorem firstI_turn {h : Int} (hh : h = 0 ∨ h = 1) (L : List (Int × Int)) (h1 : 1 ≤ L.length) : ∀ k, k ≤ L.length → firstI (betH (1 - h)) (L.map turnH) k = firstI (betH h) L k
  | 0, _ => rfl
  | k + 1, hk => by
    simp only [firstI]
    rw [firstI_turn hh L h1 k (by omega), getD_turn L (by omega), getD_turn L (firstI_lt _ L h1 k (by omega)), betH_turn hh]
theorem bestI_turn {h : Int} (hh : h = 0 ∨ h = 1) (L : List (Int × Int)) (h1 : 1 ≤ L.length) : bestI (1 - h) (L.map turnH) = bestI h L := by
  unfold bestI; rw [List.length_map]; exact firstI_turn hh L h1 _ (Nat.le_refl _)
theorem beatenB_turn {h : Int} (hh : h = 0 ∨ h = 1) (a b : Int × Int) : beatenB (1 - h) (turnH a) (turnH b) = beatenB h a b := by
  rcases hh with rfl | rfl <;> simp [beatenB, turnH] <;> omega
theorem surelyB_turn {h : Int} (hh : h = 0 ∨ h = 1) (L : List (Int × Int)) {a : Nat} (ha : a < L.length) : ∀ k, k ≤ L.length → surelyB (1 - h) (L.map turnH) a k = surelyB h L a k
  | 0, _ => rfl
  | k + 1, hk => by
    simp only [surelyB]
    rw [surelyB_turn hh L ha k (by omega), getD_turn L (by omega), getD_turn L ha, beatenB_turn hh]
end Go.Proofs.Ytjbgdpbeabakiaa
