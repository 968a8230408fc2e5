/- Chapter 11, plain laws: hopes grow with the lead, and with the styles of a team. -/
import Derived.Test.YtjbgdpbeabakiaaP2
namespace Go.Proofs.Ytjbgdpbeabakiaa
open Go.RowKit Go.Shelf
set_option linter.unusedVariables false
set_option linter.unusedSimpArgs false
def leH (x y : Int × Int) : Prop := x.1 ≤ y.1 ∧ x.2 ≤ y.2
theorem leH_refl (x : Int × Int) : leH x x := ⟨Int.le_refl _, Int.le_refl _⟩
theorem leH_trans {x y z : Int × Int} (a : leH x y) (b : leH y z) : leH x z := ⟨Int.le_trans a.1 b.1, Int.le_trans a.2 b.2⟩
theorem meanH_mono {c : List Int} {d : Int} (hd : 1 ≤ d) (hc : Pos c) {f g : Int → Int × Int} (h : ∀ p, leH (f p) (g p)) : leH (meanH c d (rowH f)) (meanH c d (rowH g)) := by
  have a := mean_mono (c := c) (u := fsts (rowH f)) (v := fsts (rowH g)) (d := d) hd hc (by simp [fsts, rowH]) (by simp [fsts, rowH]) (fun i h1 h2 => by simpa [fsts, rowH] using (h _).1)
  have b := mean_mono (c := c) (u := snds (rowH f)) (v := snds (rowH g)) (d := d) hd hc (by simp [snds, rowH]) (by simp [snds, rowH]) (fun i h1 h2 => by simpa [snds, rowH] using (h _).2)
  exact ⟨a.1, b.2⟩
theorem pickH_mono {h : Int} {a b x y : Int × Int} (h1 : leH a x) (h2 : leH b y) : leH (pickH h a b) (pickH h x y) := by
  unfold pickH leH at *; split <;> simp <;> omega
/-- chosen from hopes each of which is not less -/
theorem chosenH_mono {α : Type} {h : Int} (f g : α → Int × Int) (l : List α) (hfg : ∀ x ∈ l, leH (f x) (g x)) : leH (chosenH (l.map f) h) (chosenH (l.map g) h) := by
  cases l with
  | nil => exact leH_refl _
  | cons x t =>
    have key : ∀ (t : List α) (a b : Int × Int), leH a b → (∀ x ∈ t, leH (f x) (g x)) → leH ((t.map f).foldl (pickH h) a) ((t.map g).foldl (pickH h) b) := by
      intro t
      induction t with
      | nil => intro a b h _; exact h
      | cons y t ih => intro a b h1 h2; exact ih _ _ (pickH_mono h1 (h2 y (by simp))) (fun z hz => h2 z (by simp [hz]))
    exact key t _ _ (hfg x (by simp)) (fun z hz => hfg z (by simp [hz]))
theorem style_pos {m : Riv} (hm : rivOk m = true) (n : Nat) {h : Int} {c : List Int} (hc : c ∈ m.st h) : 1 ≤ m.d ∧ Pos (countsH n c) := by
  obtain ⟨_, hst, d1, d2⟩ := rivOk_st hm h
  exact ⟨d1, (Counts.of (countsH_ok n (hst c hc).1).1).1.pos⟩
theorem nextL_mono {l l' : Int} (h p : Int) (hl : l ≤ l') : nextL l h p ≤ nextL l' h p := by unfold nextL clampL; split <;> omega
theorem hopeH_lead {m : Riv} (hm : rivOk m = true) : ∀ (n : Nat) (l l' h : Int), l ≤ l' → leH (hopeH m n l h) (hopeH m n l' h)
  | 0, l, l', h, hl => by
    have hin := chosenH_in (h := h) (stylesH_in hm 0 h (rowH_len _) (rowH_in fun p => sureH_in _) : ∀ y ∈ stylesH m 0 h (rowH (endH h)), InH y)
    unfold InH at hin
    simp only [hopeH]
    by_cases h1 : l = 0
    · by_cases h2 : l' = 0
      · simp only [h1, h2, if_true]; exact leH_refl _
      · have : 0 < l' := by omega
        simp only [h1, h2, if_true, if_false, this, decide_true, sureH, leH]; omega
    · by_cases h2 : l' = 0
      · have : ¬ 0 < l := by omega
        simp only [h1, h2, if_true, if_false, this, decide_false, sureH, leH, Bool.false_eq_true]; omega
      · simp only [h1, h2, if_false]
        by_cases h3 : 0 < l
        · have : 0 < l' := by omega
          simp only [h3, this]; exact leH_refl _
        · by_cases h4 : 0 < l' <;> simp [h3, h4, sureH, leH]
  | n + 1, l, l', h, hl => by
    simp only [hopeH, stylesH]
    refine chosenH_mono _ _ _ fun c hc => ?_
    obtain ⟨d1, hp⟩ := style_pos hm (n + 1) hc
    exact meanH_mono d1 hp fun p => hopeH_lead hm n _ _ _ (nextL_mono h p hl)
/-- one more style -/
def addR (m : Riv) (t : Int) (c : List Int) : Riv := if t = 0 then ⟨m.a ++ [c], m.b, m.d⟩ else ⟨m.a, m.b ++ [c], m.d⟩
theorem addR_d (m : Riv) (t : Int) (c : List Int) : (addR m t c).d = m.d := by unfold addR; split <;> rfl
theorem addR_same (m : Riv) (c : List Int) : (addR m 0 c).st 0 = m.a ++ [c] ∧ (addR m 1 c).st 1 = m.b ++ [c] ∧ (addR m 0 c).st 1 = m.b ∧ (addR m 1 c).st 0 = m.a := by simp [addR, Riv.st]
theorem chosenH_snoc0 (L : List (Int × Int)) (x : Int × Int) (h : Int) (h1 : 1 ≤ L.length) : chosenH (L ++ [x]) h = pickH h (chosenH L h) x := by
  cases L with
  | nil => simp at h1
  | cons y t => simp [chosenH]
theorem st_cases {h : Int} (m : Riv) (hh : h = 0 ∨ h = 1) (c : List Int) (t : Int) (ht : t = 0 ∨ t = 1) : (addR m t c).st h = if t = h then m.st h ++ [c] else m.st h := by
  rcases hh with rfl | rfl <;> rcases ht with rfl | rfl <;> simp [addR, Riv.st]
/-- not less for the team 0, not more for the team 1 -/
def leT (t : Int) (x y : Int × Int) : Prop := if t = 0 then leH x y else leH y x
theorem leT_refl (t : Int) (x : Int × Int) : leT t x x := by unfold leT; split <;> exact leH_refl _
theorem leT_trans {t : Int} {x y z : Int × Int} (a : leT t x y) (b : leT t y z) : leT t x z := by
  unfold leT at *
  by_cases e : t = 0
  · rw [if_pos e] at *; exact leH_trans a b
  · rw [if_neg e] at *; exact leH_trans b a
theorem chosen_more {m : Riv} (hm : rivOk m = true) {t : Int} (ht : t = 0 ∨ t = 1) (c : List Int) (n : Nat) {h : Int} (hh : h = 0 ∨ h = 1) {f g : Int → Int × Int} (hfg : ∀ p, leT t (f p) (g p)) :
    leT t (chosenH (stylesH m n h (rowH f)) h) (chosenH (stylesH (addR m t c) n h (rowH g)) h) := by
  have a : leT t (chosenH (stylesH m n h (rowH f)) h) (chosenH ((m.st h).map fun c => meanH (countsH n c) m.d (rowH g)) h) := by
    unfold leT at *
    split
    · rename_i e
      have hfg := fun p => (by have := hfg p; rwa [if_pos e] at this : leH (f p) (g p))
      exact chosenH_mono _ _ _ fun c hc => meanH_mono (style_pos hm n hc).1 (style_pos hm n hc).2 hfg
    · rename_i e
      have hfg := fun p => (by have := hfg p; rwa [if_neg e] at this : leH (g p) (f p))
      exact chosenH_mono _ _ _ fun c hc => meanH_mono (style_pos hm n hc).1 (style_pos hm n hc).2 hfg
  refine leT_trans a ?_
  unfold stylesH
  rw [st_cases m hh c t ht, addR_d]
  by_cases e : t = h
  · rw [if_pos e, List.map_append]
    simp only [List.map_cons, List.map_nil]
    rw [chosenH_snoc0 _ _ _ (by rw [List.length_map]; exact (rivOk_st hm h).1.1)]
    subst e
    rcases ht with rfl | rfl
    · simp only [leT, pickH, leH, if_true]; omega
    · simp only [leT, pickH, leH]; simp; omega
  · rw [if_neg e]; exact leT_refl _ _
theorem hopeH_more {m : Riv} (hm : rivOk m = true) {t : Int} (ht : t = 0 ∨ t = 1) (c : List Int) : ∀ (n : Nat) (l h : Int), (h = 0 ∨ h = 1) → leT t (hopeH m n l h) (hopeH (addR m t c) n l h)
  | 0, l, h, hh => by
    simp only [hopeH]
    split
    · exact chosen_more hm ht c 0 hh fun p => leT_refl _ _
    · exact leT_refl _ _
  | n + 1, l, h, hh => by
    simp only [hopeH]
    exact chosen_more hm ht c (n + 1) hh fun p => hopeH_more hm ht c n _ _ (nextH_bd p hh)
end Go.Proofs.Ytjbgdpbeabakiaa
