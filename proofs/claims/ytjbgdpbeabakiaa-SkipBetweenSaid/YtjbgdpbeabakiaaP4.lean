/- Chapter 11, plain laws: hopes grow with the lead and with the styles of a team; the chance that follows from all ends lies between the bounds. -/
import Derived.Test.YtjbgdpbeabakiaaP2
namespace Go.Proofs.Ytjbgdpbeabakiaa
open Go.RowKit Go.Shelf
set_option linter.unusedVariables false
set_option linter.unusedSimpArgs false
def leH (x y : Int × Int) : Prop := x.1 ≤ y.1 ∧ x.2 ≤ y.2
theorem leH_refl (x : Int × Int) : leH x x := ⟨Int.le_refl _, Int.le_refl _⟩
theorem leH_trans {x y z : Int × Int} (a : leH x y) (b : leH y z) : leH x z := ⟨Int.le_trans a.1 b.1, Int.le_trans a.2 b.2⟩
theorem meanH_mono {c : List Int} {d : Int} (hd : 1 ≤ d) (hc : Pos c) {f g : Int → Int × Int} (h : ∀ p, leH (f p) (g p)) : leH (meanH c d (rowH f)) (meanH c d (rowH g)) := by
  have a := mean_mono (c := c) (u := fsts (rowH f)) (v := fsts (rowH g)) (d := d) hd hc (by simp [fsts, rowH]) (by simp [fsts, rowH]) (fun i h1 h2 => by simpa [fsts, rowH] using (h _).1)
  have b := mean_mono (c := c) (u := snds (rowH f)) (v := snds (rowH g)) (d := d) hd hc (by simp [snds, rowH]) (by simp [snds, rowH]) (fun i h1 h2 => by simpa [snds, rowH] using (h _).2)
  exact ⟨a.1, b.2⟩
theorem pickH_mono {h : Int} {a b x y : Int × Int} (h1 : leH a x) (h2 : leH b y) : leH (pickH h a b) (pickH h x y) := by
  unfold pickH leH at *; split <;> simp <;> omega
/-- chosen from hopes each of which is not less -/
theorem chosenH_mono {α : Type} {h : Int} (f g : α → Int × Int) (l : List α) (hfg : ∀ x ∈ l, leH (f x) (g x)) : leH (chosenH (l.map f) h) (chosenH (l.map g) h) := by
  cases l with
  | nil => exact leH_refl _
  | cons x t =>
    have key : ∀ (t : List α) (a b : Int × Int), leH a b → (∀ x ∈ t, leH (f x) (g x)) → leH ((t.map f).foldl (pickH h) a) ((t.map g).foldl (pickH h) b) := by
      intro t
      induction t with
      | nil => intro a b h _; exact h
      | cons y t ih => intro a b h1 h2; exact ih _ _ (pickH_mono h1 (h2 y (by simp))) (fun z hz => h2 z (by simp [hz]))
    exact key t _ _ (hfg x (by simp)) (fun z hz => hfg z (by simp [hz]))
theorem style_pos {m : Riv} (hm : rivOk m = true) (n : Nat) {h : Int} {c : List Int} (hc : c ∈ m.st h) : 1 ≤ m.d ∧ Pos (countsH n c) := by
  obtain ⟨_, hst, d1, d2⟩ := rivOk_st hm h
  exact ⟨d1, (Counts.of (countsH_ok n (hst c hc).1).1).1.pos⟩
theorem nextL_mono {l l' : Int} (h p : Int) (hl : l ≤ l') : nextL l h p ≤ nextL l' h p := by unfold nextL clampL; split <;> omega
theorem hopeH_lead {m : Riv} (hm : rivOk m = true) : ∀ (n : Nat) (l l' h : Int), l ≤ l' → leH (hopeH m n l h) (hopeH m n l' h)
  | 0, l, l', h, hl => by
    have hin := chosenH_in (h := h) (stylesH_in hm 0 h (rowH_len _) (rowH_in fun p => sureH_in _) : ∀ y ∈ stylesH m 0 h (rowH (endH h)), InH y)
    unfold InH at hin
    simp only [hopeH]
    by_cases h1 : l = 0
    · by_cases h2 : l' = 0
      · simp only [h1, h2, if_true]; exact leH_refl _
      · have : 0 < l' := by omega
        simp only [h1, h2, if_true, if_false, this, decide_true, sureH, leH]; omega
    · by_cases h2 : l' = 0
      · have : ¬ 0 < l := by omega
        simp only [h1, h2, if_true, if_false, this, decide_false, sureH, leH, Bool.false_eq_true]; omega
      · simp only [h1, h2, if_false]
        by_cases h3 : 0 < l
        · have : 0 < l' := by omega
          simp only [h3, this]; exact leH_refl _
        · by_cases h4 : 0 < l' <;> simp [h3, h4, sureH, leH]
  | n + 1, l, l', h, hl => by
    simp only [hopeH, stylesH]
    refine chosenH_mono _ _ _ fun c hc => ?_
    obtain ⟨d1, hp⟩ := style_pos hm (n + 1) hc
    exact meanH_mono d1 hp fun p => hopeH_lead hm n _ _ _ (nextL_mono h p hl)
/-- one more style -/
def addR (m : Riv) (t : Int) (c : List Int) : Riv := if t = 0 then ⟨m.a ++ [c], m.b, m.d⟩ else ⟨m.a, m.b ++ [c], m.d⟩
theorem addR_d (m : Riv) (t : Int) (c : List Int) : (addR m t c).d = m.d := by unfold addR; split <;> rfl
theorem addR_same (m : Riv) (c : List Int) : (addR m 0 c).st 0 = m.a ++ [c] ∧ (addR m 1 c).st 1 = m.b ++ [c] ∧ (addR m 0 c).st 1 = m.b ∧ (addR m 1 c).st 0 = m.a := by simp [addR, Riv.st]
theorem chosenH_snoc0 (L : List (Int × Int)) (x : Int × Int) (h : Int) (h1 : 1 ≤ L.length) : chosenH (L ++ [x]) h = pickH h (chosenH L h) x := by
  cases L with
  | nil => simp at h1
  | cons y t => simp [chosenH]
theorem st_cases {h : Int} (m : Riv) (hh : h = 0 ∨ h = 1) (c : List Int) (t : Int) (ht : t = 0 ∨ t = 1) : (addR m t c).st h = if t = h then m.st h ++ [c] else m.st h := by
  rcases hh with rfl | rfl <;> rcases ht with rfl | rfl <;> simp [addR, Riv.st]
/-- not less for the team 0, not more for the team 1 -/
def leT (t : Int) (x y : Int × Int) : Prop := if t = 0 then leH x y else leH y x
theorem leT_refl (t : Int) (x : Int × Int) : leT t x x := by unfold leT; split <;> exact leH_refl _
theorem leT_trans {t : Int} {x y z : Int × Int} (a : leT t x y) (b : leT t y z) : leT t x z := by
  unfold leT at *
  by_cases e : t = 0
  · rw [if_pos e] at *; exact leH_trans a b
  · rw [if_neg e] at *; exact leH_trans b a
theorem chosen_more {m : Riv} (hm : rivOk m = true) {t : Int} (ht : t = 0 ∨ t = 1) (c : List Int) (n : Nat) {h : Int} (hh : h = 0 ∨ h = 1) {f g : Int → Int × Int} (hfg : ∀ p, leT t (f p) (g p)) :
    leT t (chosenH (stylesH m n h (rowH f)) h) (chosenH (stylesH (addR m t c) n h (rowH g)) h) := by
  have a : leT t (chosenH (stylesH m n h (rowH f)) h) (chosenH ((m.st h).map fun c => meanH (countsH n c) m.d (rowH g)) h) := by
    unfold leT at *
    split
    · rename_i e
      have hfg := fun p => (by have := hfg p; rwa [if_pos e] at this : leH (f p) (g p))
      exact chosenH_mono _ _ _ fun c hc => meanH_mono (style_pos hm n hc).1 (style_pos hm n hc).2 hfg
    · rename_i e
      have hfg := fun p => (by have := hfg p; rwa [if_neg e] at this : leH (g p) (f p))
      exact chosenH_mono _ _ _ fun c hc => meanH_mono (style_pos hm n hc).1 (style_pos hm n hc).2 hfg
  refine leT_trans a ?_
  unfold stylesH
  rw [st_cases m hh c t ht, addR_d]
  by_cases e : t = h
  · rw [if_pos e, List.map_append]
    simp only [List.map_cons, List.map_nil]
    rw [chosenH_snoc0 _ _ _ (by rw [List.length_map]; exact (rivOk_st hm h).1.1)]
    subst e
    rcases ht with rfl | rfl
    · simp only [leT, pickH, leH, if_true]; omega
    · simp only [leT, pickH, leH]; simp; omega
  · rw [if_neg e]; exact leT_refl _ _
theorem hopeH_more {m : Riv} (hm : rivOk m = true) {t : Int} (ht : t = 0 ∨ t = 1) (c : List Int) : ∀ (n : Nat) (l h : Int), (h = 0 ∨ h = 1) → leT t (hopeH m n l h) (hopeH (addR m t c) n l h)
  | 0, l, h, hh => by
    simp only [hopeH]
    split
    · exact chosen_more hm ht c 0 hh fun p => leT_refl _ _
    · exact leT_refl _ _
  | n + 1, l, h, hh => by
    simp only [hopeH]
    exact chosen_more hm ht c (n + 1) hh fun p => hopeH_more hm ht c n _ _ (nextH_bd p hh)
end Go.Proofs.Ytjbgdpbeabakiaa
namespace Go.Proofs.Ytjbgdpbeabakiaa
open Go.RowKit Go.Shelf
set_option linter.unusedVariables false
set_option linter.unusedSimpArgs false
/-- a / b in quotients: across -/
theorem ediv_cross {a b a' b' : Int} (hb : 0 < b) (hb' : 0 < b') (h : a * b' ≤ a' * b) : a / b ≤ a' / b' := by
  refine Int.le_ediv_of_mul_le hb' ?_
  have h1 := Int.ediv_mul_le a (show b ≠ 0 by omega)
  have h2 := Int.mul_le_mul_of_nonneg_right h1 (show 0 ≤ b' by omega)
  refine Int.le_of_mul_le_mul_right (a := b) ?_ hb
  rw [Int.mul_right_comm]; omega
theorem dot_add : ∀ (c e v : List Int), c.length = e.length → dotI (List.zipWith (· + ·) c e) v = dotI c v + dotI e v
  | [], [], _, _ => by simp [dotI]
  | [], _ :: _, _, h => by simp at h
  | _ :: _, [], _, h => by simp at h
  | a :: c, b :: e, [], _ => by simp [dotI]
  | a :: c, b :: e, y :: v, h => by
    have ih := dot_add c e v (by simpa using h)
    simp only [List.zipWith_cons_cons, dotI, ih, Int.add_mul]; omega
theorem sum_add : ∀ (c e : List Int), c.length = e.length → sumI (List.zipWith (· + ·) c e) = sumI c + sumI e
  | [], [], _ => by simp [sumI]
  | [], _ :: _, h => by simp at h
  | _ :: _, [], h => by simp at h
  | a :: c, b :: e, h => by
    have ih := sum_add c e (by simpa using h)
    simp only [List.zipWith_cons_cons, sumI_cons, ih]; omega
theorem pos_add {c e : List Int} (hc : Pos c) (he : Pos e) : Pos (List.zipWith (· + ·) c e) := fun i hi => by
  have h1 : i < c.length := by simp at hi; omega
  have h2 : i < e.length := by simp at hi; omega
  have := hc i h1; have := he i h2
  simp; omega
/-- the sandwich: a mean of all that is counted, whatever the e more are, is between the bounds -/
theorem low_all {c e u v : List Int} {d : Int} (hd : 1 ≤ d) (hc : Pos c) (he : Pos e) (hce : c.length = e.length) (h1 : 1 ≤ u.length) (hu : u.length = c.length) (hv : u.length = v.length) (huv : ∀ i, (h : i < u.length) → (h' : i < v.length) → u[i] ≤ v[i]) (hed : sumI e ≤ d) (hs : 0 < sumI c + sumI e) :
    lowM c u d ≤ dotI (List.zipWith (· + ·) c e) v / (sumI c + sumI e) := by
  have s := sum_pos c hc
  have s' := sum_pos e he
  have D1 := dot_mono (List.zipWith (· + ·) c e) u v (pos_add hc he) hv huv
  rw [dot_add c e u hce] at D1
  have D2 := dot_lo (c := c) (v := u) (lo := minI u) hc hu (fun i hi => minI_all hi)
  have D3 := dot_lo (c := e) (v := u) (lo := minI u) he (by omega) (fun i hi => minI_all hi)
  simp only [lowM, shr, if_true]
  generalize dotI (List.zipWith (· + ·) c e) v = X at *
  generalize dotI c u = D at *
  generalize dotI e u = E at *
  generalize minI u = lo at *
  refine ediv_cross (by omega) hs ?_
  generalize sumI c = S at *
  generalize sumI e = T at *
  have P1 := Int.mul_le_mul_of_nonneg_left (show lo * S ≤ D from D2) (show 0 ≤ d - T by omega)
  have P2 := Int.mul_le_mul_of_nonneg_right (show D + lo * T ≤ X by omega) (show 0 ≤ S + d by omega)
  refine Int.le_trans ?_ P2
  have : (D + lo * T) * (S + d) - (d * lo + D) * (S + T) = (d - T) * D - (d - T) * (lo * S) := by
    simp only [Int.mul_add, Int.add_mul, Int.sub_mul]
    simp only [Int.mul_assoc, Int.mul_comm, Int.mul_left_comm]
    omega
  omega
theorem high_all {c e u v : List Int} {d : Int} (hd : 1 ≤ d) (hc : Pos c) (he : Pos e) (hce : c.length = e.length) (h1 : 1 ≤ u.length) (hu : u.length = c.length) (hv : v.length = u.length) (huv : ∀ i, (h : i < v.length) → (h' : i < u.length) → v[i] ≤ u[i]) (hed : sumI e ≤ d) (hs : 0 < sumI c + sumI e) :
    -((-dotI (List.zipWith (· + ·) c e) v) / (sumI c + sumI e)) ≤ highM c u d := by
  have s := sum_pos c hc
  have s' := sum_pos e he
  have D1 := dot_mono (List.zipWith (· + ·) c e) v u (pos_add hc he) hv huv
  rw [dot_add c e u hce] at D1
  have D2 := dot_hi (c := c) (v := u) (hi := maxI u) hc hu (fun i hi => maxI_all hi)
  have D3 := dot_hi (c := e) (v := u) (hi := maxI u) he (by omega) (fun i hi => maxI_all hi)
  simp only [highM, shr]
  rw [if_neg (by decide)]
  generalize dotI (List.zipWith (· + ·) c e) v = X at *
  generalize dotI c u = D at *
  generalize dotI e u = E at *
  generalize maxI u = hi at *
  refine Int.neg_le_neg ?_
  refine ediv_cross (by omega) hs ?_
  generalize sumI c = S at *
  generalize sumI e = T at *
  have P1 := Int.mul_le_mul_of_nonneg_left (show D ≤ hi * S from D2) (show 0 ≤ d - T by omega)
  have P2 := Int.mul_le_mul_of_nonneg_right (show X ≤ D + hi * T by omega) (show 0 ≤ S + d by omega)
  rw [Int.neg_mul, Int.neg_mul]
  refine Int.neg_le_neg ?_
  refine Int.le_trans P2 ?_
  have : (d * hi + D) * (S + T) - (D + hi * T) * (S + d) = (d - T) * (hi * S) - (d - T) * D := by
    simp only [Int.mul_add, Int.add_mul, Int.sub_mul]
    simp only [Int.mul_assoc, Int.mul_comm, Int.mul_left_comm]
    omega
  omega
/-- a quotient, rounded down or up -/
def rdiv (down : Bool) (s n : Int) : Int := if down then s / n else -((-s) / n)
theorem rdiv_le {a b n : Int} (hn : 0 < n) (h : a ≤ b) : rdiv true a n ≤ rdiv false b n := by
  simp only [rdiv, if_true, Bool.false_eq_true, if_false]
  have f1 := Int.ediv_mul_le a (show n ≠ 0 by omega)
  have f2 := Int.ediv_mul_le (-b) (show n ≠ 0 by omega)
  refine Int.le_of_mul_le_mul_right (a := n) ?_ hn
  rw [Int.neg_mul]; omega
/-- the chance that a team chooses -/
def pickV (h : Int) (l : List Int) : Int := match l with | [] => 0 | x :: t => t.foldl (fun a b => if h = 0 then max a b else min a b) x
def winV (h p : Int) : Int := if (0 < p ∧ h = 0) ∨ (p < 0 ∧ h = 1) then 65536 else 0
def rowV (f : Int → Int) : List Int := (List.range 17).map fun i : Nat => f ((i : Int) - 8)
def styleV (down : Bool) (n : Nat) (vs : List Int) (c : List Int) : Int := rdiv down (dotI (countsH n c) vs) (sumI (countsH n c))
/-- the chance that the team 0 wins -/
def chanceP (down : Bool) (m : Riv) : Nat → Int → Int → Int
  | 0, l, h => if l = 0 then pickV h ((m.st h).map (styleV down 0 (rowV (winV h)))) else if 0 < l then 65536 else 0
  | n + 1, l, h => pickV h ((m.st h).map (styleV down (n + 1) (rowV fun p => chanceP down m n (nextL l h p) (nextH h p))))
/-- there are outcomes in each style that is looked at -/
def playedOk (m : Riv) : Nat → Int → Int → Prop
  | 0, l, h => l = 0 → ∀ c ∈ m.st h, sumI (countsH 0 c) ≠ 0
  | n + 1, l, h => (∀ c ∈ m.st h, sumI (countsH (n + 1) c) ≠ 0) ∧ ∀ p, -8 ≤ p → p ≤ 8 → playedOk m n (nextL l h p) (nextH h p)
/-- counts and those with so many outcomes more -/
def Fill (d : Int) (c c' : List Int) : Prop := ∃ e, c.length = e.length ∧ Pos e ∧ sumI e = d ∧ c' = List.zipWith (· + ·) c e
structure Fills (m m' : Riv) : Prop where
  d : m'.d = m.d
  la : m'.a.length = m.a.length
  lb : m'.b.length = m.b.length
  a : ∀ i, (h : i < m.a.length) → (h' : i < m'.a.length) → Fill m.d m.a[i] m'.a[i]
  b : ∀ i, (h : i < m.b.length) → (h' : i < m'.b.length) → Fill m.d m.b[i] m'.b[i]
theorem Fills.len {m m' : Riv} (h : Fills m m') (t : Int) : (m'.st t).length = (m.st t).length := by by_cases e : t = 0 <;> simp [Riv.st, e, h.la, h.lb]
theorem Fills.st {m m' : Riv} (hf : Fills m m') (t : Int) (i : Nat) (h : i < (m.st t).length) (h' : i < (m'.st t).length) : Fill m.d (m.st t)[i] (m'.st t)[i] := by
  unfold Riv.st at *
  split at h <;> rename_i e
  · simp only [e, if_true] at h' ⊢; exact hf.a i h h'
  · simp only [e, if_false] at h' ⊢; exact hf.b i h h'
theorem foldl_between {h : Int} : ∀ (k : Nat) (L : List (Int × Int)) (A B : List Int), L.length = k → A.length = k → B.length = k →
    (∀ i, (h1 : i < L.length) → (h2 : i < A.length) → (h3 : i < B.length) → L[i].1 ≤ A[i] ∧ A[i] ≤ B[i] ∧ B[i] ≤ L[i].2) → ∀ x a b, x.1 ≤ a ∧ a ≤ b ∧ b ≤ x.2 →
    (L.foldl (pickH h) x).1 ≤ A.foldl (fun a b => if h = 0 then max a b else min a b) a ∧ A.foldl (fun a b => if h = 0 then max a b else min a b) a ≤ B.foldl (fun a b => if h = 0 then max a b else min a b) b ∧ B.foldl (fun a b => if h = 0 then max a b else min a b) b ≤ (L.foldl (pickH h) x).2
  | 0, L, A, B, l1, l2, l3, _, x, a, b, hx => by
    obtain rfl := List.length_eq_zero_iff.1 l1
    obtain rfl := List.length_eq_zero_iff.1 l2
    obtain rfl := List.length_eq_zero_iff.1 l3
    exact hx
  | k + 1, L, A, B, l1, l2, l3, hh, x, a, b, hx => by
    match L, A, B, l1, l2, l3 with
    | y :: L, p :: A, q :: B, l1, l2, l3 =>
      simp only [List.foldl_cons]
      have h0 := hh 0 (by simp) (by simp) (by simp)
      simp only [List.getElem_cons_zero] at h0
      refine foldl_between k L A B (by simpa using l1) (by simpa using l2) (by simpa using l3) (fun i h1 h2 h3 => ?_) _ _ _ ?_
      · have := hh (i + 1) (by simpa using h1) (by simpa using h2) (by simpa using h3)
        simpa using this
      · unfold pickH; split <;> simp <;> omega
theorem pick_between {h : Int} {L : List (Int × Int)} {A B : List Int} (l2 : A.length = L.length) (l3 : B.length = L.length) (hh : ∀ i, (h1 : i < L.length) → (h2 : i < A.length) → (h3 : i < B.length) → L[i].1 ≤ A[i] ∧ A[i] ≤ B[i] ∧ B[i] ≤ L[i].2) :
    (chosenH L h).1 ≤ pickV h A ∧ pickV h A ≤ pickV h B ∧ pickV h B ≤ (chosenH L h).2 := by
  match L, A, B, l2, l3 with
  | [], [], [], _, _ => simp [chosenH, pickV]
  | y :: L, p :: A, q :: B, l2, l3 =>
    have h0 := hh 0 (by simp) (by simp) (by simp)
    simp only [List.getElem_cons_zero] at h0
    exact foldl_between L.length L A B rfl (by simpa using l2) (by simpa using l3) (fun i h1 h2 h3 => by
      have := hh (i + 1) (by simpa using h1) (by simpa using h2) (by simpa using h3)
      simpa using this) _ _ _ h0
theorem set_zip (c e : List Int) (k : Nat) (hce : c.length = e.length) : (List.zipWith (· + ·) c e).set k 0 = List.zipWith (· + ·) (c.set k 0) (e.set k 0) := by
  refine List.ext_getElem (by simp) fun i h1 h2 => ?_
  by_cases hk : k = i
  · subst hk; simp
  · simp [List.getElem_set, hk]
theorem pos_set {c : List Int} (hc : Pos c) (k : Nat) : Pos (c.set k 0) := fun i hi => by
  rw [List.getElem_set]; split
  · omega
  · exact hc i (by simpa using hi)
theorem sum_set {c : List Int} (hc : Pos c) (k : Nat) : sumI (c.set k 0) ≤ sumI c := by
  induction c generalizing k with
  | nil => simp [sumI]
  | cons a c ih =>
    have h0 := hc 0 (by simp)
    have hc' : Pos c := fun i hi => by have := hc (i + 1) (by simpa using hi); rwa [List.getElem_cons_succ] at this
    simp at h0
    cases k with
    | zero => simp only [List.set_cons_zero, sumI_cons]; omega
    | succ k => simp only [List.set_cons_succ, sumI_cons]; have := ih hc' k; omega
theorem fill_counts {d : Int} {c c' : List Int} (n : Nat) (h : Fill d c c') : ∃ e, c.length = e.length ∧ Pos e ∧ sumI e ≤ d ∧ countsH n c' = List.zipWith (· + ·) (countsH n c) e := by
  obtain ⟨e, h1, h2, h3, rfl⟩ := h
  unfold countsH
  split
  · exact ⟨e.set 8 0, by simpa using h1, pos_set h2 8, by have := sum_set h2 8; omega, set_zip c e 8 h1⟩
  · exact ⟨e, h1, h2, by omega, rfl⟩
/-- one style -/
theorem style_between {n : Nat} {d : Int} {c c' : List Int} (hd : 1 ≤ d) (hc : Pos (countsH n c)) (h17 : c.length = 17) (hf : Fill d c c') (hs : sumI (countsH n c') ≠ 0) {f : Int → Int × Int} {g g' : Int → Int} (hg : ∀ p, -8 ≤ p → p ≤ 8 → (f p).1 ≤ g p ∧ g p ≤ g' p ∧ g' p ≤ (f p).2) :
    (meanH (countsH n c) d (rowH f)).1 ≤ styleV true n (rowV g) c' ∧ styleV true n (rowV g) c' ≤ styleV false n (rowV g') c' ∧ styleV false n (rowV g') c' ≤ (meanH (countsH n c) d (rowH f)).2 := by
  obtain ⟨e, e1, e2, e3, e4⟩ := fill_counts n hf
  have hl : (countsH n c).length = 17 := by unfold countsH; split <;> simp [h17]
  have hs' : 0 < sumI (countsH n c) + sumI e := by
    rw [e4, sum_add _ _ (by omega)] at hs
    have := sum_pos _ hc; have := sum_pos _ e2; omega
  unfold styleV
  rw [e4, sum_add _ _ (by omega)]
  have lg : ∀ g : Int → Int, (rowV g).length = 17 := fun g => by simp [rowV]
  have gg : ∀ (g : Int → Int) (i : Nat) (h : i < (rowV g).length), (rowV g)[i] = g ((i : Int) - 8) := fun g i h => by simp [rowV]
  have a := low_all (c := countsH n c) (e := e) (u := fsts (rowH f)) (v := rowV g) (d := d) hd hc e2 (by omega) (by simp [fsts, rowH]) (by simp [fsts, rowH]; omega) (by rw [lg]; simp [fsts, rowH]) (fun i h1 h2 => by
    have hi : i < 17 := by rw [lg] at h2; exact h2
    have := hg ((i : Int) - 8) (by omega) (by omega)
    simpa [fsts, rowH, gg] using this.1) e3 hs'
  have b := high_all (c := countsH n c) (e := e) (u := snds (rowH f)) (v := rowV g') (d := d) hd hc e2 (by omega) (by simp [snds, rowH]) (by simp [snds, rowH]; omega) (by rw [lg]; simp [snds, rowH]) (fun i h1 h2 => by
    have hi : i < 17 := by rw [lg] at h1; exact h1
    have := hg ((i : Int) - 8) (by omega) (by omega)
    simpa [snds, rowH, gg] using this.2.2) e3 hs'
  refine ⟨a, rdiv_le hs' (dot_mono _ _ _ (pos_add hc e2) (by rw [lg, lg]) fun i h1 h2 => ?_), b⟩
  have hi : i < 17 := by rw [lg] at h1; exact h1
  have := hg ((i : Int) - 8) (by omega) (by omega)
  simpa [gg] using this.2.1
theorem endH_win {h p : Int} (hh : h = 0 ∨ h = 1) : endH h p = (winV h p, winV h p) := by
  unfold endH winV sureH
  rcases hh with rfl | rfl <;> by_cases h1 : 0 < p <;> by_cases h2 : p < 0 <;> simp [h1, h2] <;> omega
/-- THE SANDWICH, for each state -/
theorem chance_between {m m' : Riv} (hm : rivOk m = true) (hf : Fills m m') : ∀ (n : Nat) (l h : Int), (h = 0 ∨ h = 1) → playedOk m' n l h →
    (hopeH m n l h).1 ≤ chanceP true m' n l h ∧ chanceP true m' n l h ≤ chanceP false m' n l h ∧ chanceP false m' n l h ≤ (hopeH m n l h).2
  | 0, l, h, hh, hok => by
    simp only [hopeH, chanceP]
    by_cases hl : l = 0
    · simp only [hl, if_true]
      refine pick_between (by rw [List.length_map, stylesH_len]; exact hf.len h) (by rw [List.length_map, stylesH_len]; exact hf.len h) fun i h1 h2 h3 => ?_
      simp only [stylesH, List.getElem_map]
      have i1 : i < (m.st h).length := by simpa [stylesH] using h1
      have i2 : i < (m'.st h).length := by simpa using h2
      have hmem := List.getElem_mem i1
      obtain ⟨d1, hp⟩ := style_pos hm 0 hmem
      exact style_between d1 hp ((rivOk_st hm h).2.1 _ hmem).2 (hf.st h i i1 i2) (hok hl _ (List.getElem_mem i2)) fun p _ _ => by rw [endH_win hh]; simp
    · simp only [hl, if_false]
      by_cases h0 : 0 < l <;> simp [h0, sureH]
  | n + 1, l, h, hh, hok => by
    simp only [hopeH, chanceP]
    refine pick_between (by rw [List.length_map, stylesH_len]; exact hf.len h) (by rw [List.length_map, stylesH_len]; exact hf.len h) fun i h1 h2 h3 => ?_
    simp only [stylesH, List.getElem_map]
    have i1 : i < (m.st h).length := by simpa [stylesH] using h1
    have i2 : i < (m'.st h).length := by simpa using h2
    have hmem := List.getElem_mem i1
    obtain ⟨d1, hp⟩ := style_pos hm (n + 1) hmem
    exact style_between d1 hp ((rivOk_st hm h).2.1 _ hmem).2 (hf.st h i i1 i2) (hok.1 _ (List.getElem_mem i2)) fun p p0 p1 => chance_between hm hf n _ _ (nextH_bd p hh) (hok.2 p p0 p1)
end Go.Proofs.Ytjbgdpbeabakiaa
