/- Contract of skill.Mean. -/
import Derived.Test.YtjbgdpbeabakiaaS2
namespace Go.Proofs.Ytjbgdpbeabakiaa
open Go.RowKit Go.Shelf
set_option linter.unusedVariables false
set_option linter.unusedSimpArgs false

theorem any_false {α : Type} {p : α → Bool} {l : List α} (h : l.any p = false) : ∀ i, (hi : i < l.length) → p l[i] = false := fun i hi => by
  have := List.any_eq_false.1 h l[i] (List.getElem_mem hi)
  simpa using this
theorem Counts.of {l : List Int} (h : countedB l = true) : Counts l ∧ 1 ≤ l.length ∧ l.length ≤ 49 := by
  simp only [countedB, Bool.and_eq_true, Bool.not_eq_true'] at h
  obtain ⟨h1, h2⟩ := h
  have := inR_iff.1 h1
  refine ⟨fun i hi => ?_, by omega, by omega⟩
  have := any_false h2 i hi
  simp only [badCount, Bool.not_eq_false'] at this
  exact inR_iff.1 this
theorem Vals.of {l : List Int} (h : l.any badValue = false) : Vals l := fun i hi => by
  have := any_false h i hi
  simp only [badValue, Bool.not_eq_false'] at this
  exact inR_iff.1 this
def meanOk (l m : List Int) (d : Int) : Bool := countedB l && decide (m.length = l.length) && !m.any badValue && inR d 1 1000
def lowM (l m : List Int) (d : Int) : Int := shr (d * minI m + dotI l m) (sumI l + d) 1
def highM (l m : List Int) (d : Int) : Int := shr (d * maxI m + dotI l m) (sumI l + d) 2
def meanV (l m : List Int) (d : Int) : Value := if meanOk l m d then .tuple #[.int .i64 (lowM l m d), .int .i64 (highM l m d), .int .i64 0] else .tuple #[.int .i64 0, .int .i64 0, .int .i64 2]
theorem Mean_c (A B : Option Addr) (c c' : Nat) (l m : List Int) (d : Int) (w : World) (hr : Arr w A (ints l)) (hs : Arr w B (ints m)) (hl : l.length < 4294967296) (hm : m.length < 4294967296) :
    Calls Try.prog 59 #[.slice A l.length c, .slice B m.length c', .int .i64 d] w fun e w' => e = .returned (meanV l m d) ∧ Below w.heap.size w w' := by
  cases e1 : countedB l
  · go_enter Try.func59, Try.ntmps59
    go_wp2_with (go_at_call 52; refine (counted_c _ _ _ _ hr hl).mono ?_; rintro e w' ⟨rfl, rfl⟩)
    go_ret3
    exact ⟨by simp [meanV, meanOk, e1], (by repeat (with_reducible first | exact Below.refl _ _ | assumption | refine Below.al ?_ _ | refine Below.dr ?_ | refine Below.drn ?_ _ | refine Below.sc ?_ (by simp <;> omega) _ | refine Below.th ?_ (by assumption)))⟩
  · by_cases h2 : m.length = l.length
    · have e2 : ((m.length : Int) != (l.length : Int)) = false := by simp; omega
      have e2' : (m.length != l.length) = false := by simp; omega
      have H2 := Lib.hid h2
      clear h2
      cases e3 : m.any badValue
      · cases e4 : inR d 1 1000
        · go_enter Try.func59, Try.ntmps59
          go_wp2_with (first | (go_at_call 52; refine (counted_c _ _ _ _ hr hl).mono ?_; rintro e w' ⟨rfl, rfl⟩) | (go_at_call 65; refine (ContainsValue_c _ _ _ _ hs hm).mono ?_; rintro e w' ⟨rfl, rfl⟩) | (go_at_call 60; refine (skill_within_c _ _ _ _).mono ?_; rintro e w' ⟨rfl, rfl⟩))
          go_ret3
          exact ⟨by simp [meanV, meanOk, e4], (by repeat (with_reducible first | exact Below.refl _ _ | assumption | refine Below.al ?_ _ | refine Below.dr ?_ | refine Below.drn ?_ _ | refine Below.sc ?_ (by simp <;> omega) _ | refine Below.th ?_ (by assumption)))⟩
        · obtain ⟨hc, n1, n2⟩ := Counts.of e1
          have hv := Vals.of e3
          obtain ⟨d1, d2⟩ := inR_iff.1 e4
          have K1 := Aside.mk (fun w hr hs => mean_Min A B c c' l m d w hr hs hc hv H2.out n1 n2 d1 d2)
          have K2 := Aside.mk (fun w hr hs => mean_Max A B c c' l m d w hr hs hc hv H2.out n1 n2 d1 d2)
          clear hc hv
          go_enter Try.func59, Try.ntmps59
          go_wp2_with (first | (go_at_call 52; refine (counted_c _ _ _ _ hr hl).mono ?_; rintro e w' ⟨rfl, rfl⟩) | (go_at_call 65; refine (ContainsValue_c _ _ _ _ hs hm).mono ?_; rintro e w' ⟨rfl, rfl⟩) | (go_at_call 60; refine (skill_within_c _ _ _ _).mono ?_; rintro e w' ⟨rfl, rfl⟩))
          refine (K1.out _ hr hs).mono ?_
          rintro e w' ⟨rfl, zb⟩
          have hr' := hr.below zb
          have hs' := hs.below zb
          go_wp2_with fail
          refine (K2.out _ hr' hs').mono ?_
          rintro e w2 ⟨rfl, zb2⟩
          go_wp2
          go_ret3
          exact ⟨by simp [meanV, meanOk, e1, e3, e4, H2.out, lowM, highM], (by repeat (with_reducible first | exact Below.refl _ _ | assumption | refine Below.al ?_ _ | refine Below.dr ?_ | refine Below.drn ?_ _ | refine Below.sc ?_ (by simp <;> omega) _ | refine Below.th ?_ (by assumption)))⟩
      · go_enter Try.func59, Try.ntmps59
        go_wp2_with (first | (go_at_call 52; refine (counted_c _ _ _ _ hr hl).mono ?_; rintro e w' ⟨rfl, rfl⟩) | (go_at_call 65; refine (ContainsValue_c _ _ _ _ hs hm).mono ?_; rintro e w' ⟨rfl, rfl⟩))
        go_ret3
        exact ⟨by simp [meanV, meanOk, e3], (by repeat (with_reducible first | exact Below.refl _ _ | assumption | refine Below.al ?_ _ | refine Below.dr ?_ | refine Below.drn ?_ _ | refine Below.sc ?_ (by simp <;> omega) _ | refine Below.th ?_ (by assumption)))⟩
    · have e2 : ((m.length : Int) != (l.length : Int)) = true := by simp; omega
      have e2' : (m.length != l.length) = true := by simp; omega
      go_enter Try.func59, Try.ntmps59
      go_wp2_with (go_at_call 52; refine (counted_c _ _ _ _ hr hl).mono ?_; rintro e w' ⟨rfl, rfl⟩)
      go_ret3
      exact ⟨by simp [meanV, meanOk, h2], (by repeat (with_reducible first | exact Below.refl _ _ | assumption | refine Below.al ?_ _ | refine Below.dr ?_ | refine Below.drn ?_ _ | refine Below.sc ?_ (by simp <;> omega) _ | refine Below.th ?_ (by assumption)))⟩
end Go.Proofs.Ytjbgdpbeabakiaa
