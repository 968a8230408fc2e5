/- Chapter 11: hopes as a plain function of rivals, ends, lead and hammer; where they lie. -/
import Derived.Test.YtjbgdpbeabakiaaK4
namespace Go.Proofs.Ytjbgdpbeabakiaa
open Go.RowKit Go.Shelf
set_option linter.unusedVariables false
set_option linter.unusedSimpArgs false
def endH (h p : Int) : Int × Int := sureH ((decide (0 < p) && decide (h = 0)) || (decide (p < 0) && decide (h = 1)))
def rowH (f : Int → Int × Int) : List (Int × Int) := (List.range 17).map fun i : Nat => f ((i : Int) - 8)
def countsH (n : Nat) (c : List Int) : List Int := if n = 0 then c.set 8 0 else c
def stylesH (m : Riv) (n : Nat) (h : Int) (hs : List (Int × Int)) : List (Int × Int) := (m.st h).map fun c => meanH (countsH n c) m.d hs
/-- the hope of a state: ends, lead, hammer -/
def hopeH (m : Riv) : Nat → Int → Int → Int × Int
  | 0, l, h => if l = 0 then chosenH (stylesH m 0 h (rowH (endH h))) h else sureH (decide (0 < l))
  | n + 1, l, h => chosenH (stylesH m (n + 1) h (rowH fun p => hopeH m n (nextL l h p) (nextH h p))) h
/-- the hope behind an end with points -/
def stepH (m : Riv) (n : Nat) (l h p : Int) : Int × Int := match n with
  | 0 => endH h p
  | n + 1 => hopeH m n (nextL l h p) (nextH h p)
theorem hopeH_eq (m : Riv) (n : Nat) (l h : Int) (hz : n ≠ 0 ∨ l = 0) : hopeH m n l h = chosenH (stylesH m n h (rowH (stepH m n l h))) h := by
  cases n with
  | zero => simp at hz; subst hz; simp only [hopeH, if_true]; rfl
  | succ n => rfl
theorem hopeH_end (m : Riv) (l h : Int) (hz : l ≠ 0) : hopeH m 0 l h = sureH (decide (0 < l)) := by simp [hopeH, hz]
theorem rowH_len (f : Int → Int × Int) : (rowH f).length = 17 := by simp [rowH]
theorem rowH_get (f : Int → Int × Int) {i : Nat} (hi : i < (rowH f).length) : (rowH f)[i] = f ((i : Int) - 8) := by simp [rowH]
def InH (x : Int × Int) : Prop := (0 ≤ x.1 ∧ x.1 ≤ 65536) ∧ (0 ≤ x.2 ∧ x.2 ≤ 65536)
theorem sureH_in (b : Bool) : InH (sureH b) := by cases b <;> simp [sureH, InH]
theorem style_ok {c : List Int} (h : badStyle c = false) : countedB c = true ∧ c.length = 17 := by
  simp only [badStyle, Bool.not_eq_false', Bool.and_eq_true, decide_eq_true_eq] at h
  exact ⟨h.1, by omega⟩
theorem rivOk_st {m : Riv} (h : rivOk m = true) (t : Int) : (1 ≤ (m.st t).length ∧ (m.st t).length ≤ 8) ∧ (∀ c ∈ m.st t, countedB c = true ∧ c.length = 17) ∧ 1 ≤ m.d ∧ m.d ≤ 1000 := by
  simp only [rivOk, stylesOk, Bool.and_eq_true, Bool.not_eq_true'] at h
  obtain ⟨⟨⟨a1, a2⟩, b1, b2⟩, d⟩ := h
  obtain ⟨d1, d2⟩ := inR_iff.1 d
  have a := inR_iff.1 a1
  have b := inR_iff.1 b1
  unfold Riv.st
  split
  · exact ⟨⟨by omega, by omega⟩, fun c hc => style_ok (by have := List.any_eq_false.1 a2 c hc; simpa using this), d1, d2⟩
  · exact ⟨⟨by omega, by omega⟩, fun c hc => style_ok (by have := List.any_eq_false.1 b2 c hc; simpa using this), d1, d2⟩
theorem counted_iff (c : List Int) : countedB c = true ↔ (1 ≤ c.length ∧ c.length ≤ 49) ∧ ∀ x ∈ c, 0 ≤ x ∧ x ≤ 1000000 := by
  simp only [countedB, Bool.and_eq_true, Bool.not_eq_true', inR_iff, List.any_eq_false, badCount, Bool.not_eq_true, Bool.not_eq_false', Bool.not_not]
  constructor
  · rintro ⟨h, h2⟩; exact ⟨by omega, fun x hx => inR_iff.1 (by have := h2 x hx; simpa using this)⟩
  · rintro ⟨h, h2⟩; exact ⟨by omega, fun x hx => by have := inR_iff.2 (h2 x hx); simpa using this⟩
theorem countsH_ok (n : Nat) {c : List Int} (h : countedB c = true) : countedB (countsH n c) = true ∧ (countsH n c).length = c.length := by
  unfold countsH
  split
  · refine ⟨?_, by simp⟩
    rw [counted_iff] at *
    refine ⟨by simpa using h.1, fun x hx => ?_⟩
    rcases List.mem_or_eq_of_mem_set hx with hx | rfl
    · exact h.2 x hx
    · omega
  · exact ⟨h, rfl⟩
theorem Counts.pos {c : List Int} (h : Counts c) : Pos c := fun i hi => (h i hi).1
theorem meanH_in {c : List Int} {d : Int} {l : List (Int × Int)} (hc : countedB c = true) (hd : 1 ≤ d) (hl : l.length = c.length) (h : ∀ x ∈ l, InH x) : InH (meanH c d l) := by
  obtain ⟨hC, n1, n2⟩ := Counts.of hc
  have a := mean_in (c := c) (v := fsts l) (d := d) (lo := 0) (hi := 65536) hd hC.pos (by simpa [fsts] using hl) n1 (fun i hi => by
    have hi' : i < l.length := by simpa [fsts] using hi
    have := h l[i] (List.getElem_mem hi'); simpa [fsts] using this.1)
  have b := mean_in (c := c) (v := snds l) (d := d) (lo := 0) (hi := 65536) hd hC.pos (by simpa [snds] using hl) n1 (fun i hi => by
    have hi' : i < l.length := by simpa [snds] using hi
    have := h l[i] (List.getElem_mem hi'); simpa [snds] using this.2)
  exact ⟨⟨a.1, a.2.1⟩, b.2.2⟩
theorem meanOk_in {c : List Int} {d : Int} {l : List (Int × Int)} (hc : countedB c = true) (hd : 1 ≤ d) (hd2 : d ≤ 1000) (hl : l.length = c.length) (h : ∀ x ∈ l, InH x) : meanOk c (fsts l) d = true ∧ meanOk c (snds l) d = true := by
  have key : ∀ v : List Int, v.length = c.length → (∀ x ∈ v, 0 ≤ x ∧ x ≤ 65536) → meanOk c v d = true := fun v hv hx => by
    simp only [meanOk, hc, Bool.true_and, Bool.and_eq_true, decide_eq_true_eq, Bool.not_eq_true', List.any_eq_false]
    refine ⟨⟨hv, fun x hm => ?_⟩, inR_iff.2 ⟨hd, hd2⟩⟩
    have := hx x hm
    simp only [badValue, Bool.not_eq_true', Bool.not_eq_true, Bool.not_eq_false']
    rw [inR_iff.2 ⟨by omega, by omega⟩]; simp
  constructor
  · refine key _ (by simpa [fsts] using hl) fun x hx => ?_
    simp only [fsts, List.mem_map] at hx
    obtain ⟨y, hy, rfl⟩ := hx
    exact (h y hy).1
  · refine key _ (by simpa [snds] using hl) fun x hx => ?_
    simp only [snds, List.mem_map] at hx
    obtain ⟨y, hy, rfl⟩ := hx
    exact (h y hy).2
theorem pickH_in {h : Int} {a b : Int × Int} (ha : InH a) (hb : InH b) : InH (pickH h a b) := by
  unfold pickH InH at *; split <;> simp <;> omega
theorem foldl_in {h : Int} : ∀ (l : List (Int × Int)) (x : Int × Int), InH x → (∀ y ∈ l, InH y) → InH (l.foldl (pickH h) x)
  | [], _, hx, _ => hx
  | y :: l, x, hx, hl => foldl_in l _ (pickH_in hx (hl y (by simp))) (fun z hz => hl z (by simp [hz]))
theorem chosenH_in {h : Int} {l : List (Int × Int)} (hl : ∀ y ∈ l, InH y) : InH (chosenH l h) := by
  cases l with
  | nil => simp [chosenH, InH]
  | cons x t => exact foldl_in t x (hl x (by simp)) (fun y hy => hl y (by simp [hy]))
theorem stylesH_in {m : Riv} (hm : rivOk m = true) (n : Nat) (h : Int) {hs : List (Int × Int)} (hl : hs.length = 17) (hh : ∀ x ∈ hs, InH x) : ∀ y ∈ stylesH m n h hs, InH y := by
  intro y hy
  simp only [stylesH, List.mem_map] at hy
  obtain ⟨c, hc, rfl⟩ := hy
  obtain ⟨_, hst, d1, d2⟩ := rivOk_st hm h
  obtain ⟨h1, h2⟩ := hst c hc
  obtain ⟨k1, k2⟩ := countsH_ok n h1
  exact meanH_in k1 d1 (by omega) hh
theorem rowH_in {f : Int → Int × Int} (hf : ∀ p, InH (f p)) : ∀ x ∈ rowH f, InH x := by
  intro x hx
  simp only [rowH, List.mem_map] at hx
  obtain ⟨i, _, rfl⟩ := hx
  exact hf _
theorem hopeH_in {m : Riv} (hm : rivOk m = true) : ∀ (n : Nat) (l h : Int), InH (hopeH m n l h)
  | 0, l, h => by
    simp only [hopeH]; split
    · exact chosenH_in (stylesH_in hm 0 h (rowH_len _) (rowH_in fun p => sureH_in _))
    · exact sureH_in _
  | n + 1, l, h => chosenH_in (stylesH_in hm (n + 1) h (rowH_len _) (rowH_in fun p => hopeH_in hm n _ _))
theorem stepH_in {m : Riv} (hm : rivOk m = true) (n : Nat) (l h p : Int) : InH (stepH m n l h p) := by
  cases n with
  | zero => exact sureH_in _
  | succ n => exact hopeH_in hm _ _ _
theorem stylesH_len (m : Riv) (n : Nat) (h : Int) (hs : List (Int × Int)) : (stylesH m n h hs).length = (m.st h).length := by simp [stylesH]
end Go.Proofs.Ytjbgdpbeabakiaa
