/- Contracts of skill.event, Chance, Given, Better. -/
import Derived.Test.YtjbgdpbeabakiaaS3
namespace Go.Proofs.Ytjbgdpbeabakiaa
open Go.RowKit Go.Shelf
set_option linter.unusedVariables false
set_option linter.unusedSimpArgs false

/-- an outcome at place i that breaks the rule of events -/
def evBad (l : List Int) (n : Int) (i : Nat) : Bool := !inR (l.getD i 0) 0 (n - 1) || (decide (0 < i) && decide (l.getD i 0 ≤ l.getD (i - 1) 0))
def eventB (l : List Int) (n : Int) : Bool := (List.range l.length).all fun i => !evBad l n i
theorem eventB_bad {l : List Int} {n : Int} {k : Nat} (hk : k < l.length) (h : evBad l n k = true) : eventB l n = false := by
  unfold eventB
  rw [Bool.eq_false_iff]
  intro h2
  have := List.all_eq_true.1 h2 k (List.mem_range.2 hk)
  simp [h] at this
theorem eventB_ok {l : List Int} {n : Int} (h : ∀ j, j < l.length → evBad l n j = false) : eventB l n = true := by
  unfold eventB
  exact List.all_eq_true.2 fun j hj => by simp [h j (List.mem_range.1 hj)]
set_option maxHeartbeats 400000 in
theorem event_c (A : Option Addr) (c : Nat) (l : List Int) (n : Int) (w : World) (hr : Arr w A (ints l)) (hl : l.length < 4294967296) (hn0 : 0 ≤ n) (hn : n ≤ 4294967296) :
    Calls Try.prog 53 #[.slice A l.length c, .int .i64 n] w fun e w' => e = .returned (.bool (eventB l n)) ∧ w = w' := by
  go_enter Try.func53, Try.ntmps53
  go_wp2
  go_loop [5, 6, 9] (fun x y i => ∃ k : Nat, k ≤ l.length ∧ i = .int .i64 k ∧ Hid (∀ j, j < k → evBad l n j = false)) (fun _ _ i => l.length - (intOf i).toNat)
  case atStart => exact ⟨0, Nat.zero_le _, rfl, fun j h => by omega⟩
  case round =>
    obtain ⟨k, hk, rfl, HN⟩ := hrel
    by_cases hlt : k < l.length
    · obtain ⟨b, o, rfl, hb, hcell⟩ := hr.int_at hlt
      have hg : l.getD k 0 = l[k] := by simp [hlt]
      have hgo : evBad l n k = false → ∀ j, j < k + 1 → evBad l n j = false := fun h j hj => by
        by_cases e : j = k
        · subst e; exact h
        · exact HN.out j (by omega)
      have HGO := Aside.mk hgo
      clear hgo
      cases e1 : inR l[k] 0 (n - 1)
      · have HB := Lib.hid (eventB_bad hlt (by unfold evBad; rw [hg, e1]; rfl))
        clear hg
        go_wp2_with (go_at_call 60; refine (skill_within_c _ _ _ _).mono ?_; rintro e w' ⟨rfl, rfl⟩)
        go_ret
        exact ⟨ret_bool HB.out.symm, rfl⟩
      · cases k with
        | zero =>
          have HB : Aside (evBad l n 0 = false) := ⟨by unfold evBad; rw [hg, e1]; rfl⟩
          clear hg
          simp only [Nat.add_zero] at hcell
          go_wp2_with (go_at_call 60; refine (skill_within_c _ _ _ _).mono ?_; rintro e w' ⟨rfl, rfl⟩)
          go_round
          case rel => exact ⟨1, by omega, by go_num, HGO.out HB.out⟩
          case measure => simp [intOf]; omega
        | succ j =>
          obtain ⟨b', o', hA, hb', hcell'⟩ := hr.int_at (i := j) (by omega)
          obtain ⟨rfl, rfl⟩ : b = b' ∧ o = o' := by simpa using hA
          have hg' : l.getD j 0 = l[j] := by simp [show j < l.length from by omega]
          by_cases e2 : l[j + 1] ≤ l[j]
          · have HB := Lib.hid (eventB_bad hlt (by unfold evBad; rw [hg, e1, show j + 1 - 1 = j from rfl, hg']; simp [e2]))
            clear hg hg'
            go_wp2_with (go_at_call 60; refine (skill_within_c _ _ _ _).mono ?_; rintro e w' ⟨rfl, rfl⟩)
            go_ret
            exact ⟨ret_bool HB.out.symm, rfl⟩
          · have HB : Aside (evBad l n (j + 1) = false) := ⟨by unfold evBad; rw [hg, e1, show j + 1 - 1 = j from rfl, hg']; simp; omega⟩
            clear hg hg'
            go_wp2_with (go_at_call 60; refine (skill_within_c _ _ _ _).mono ?_; rintro e w' ⟨rfl, rfl⟩)
            go_round
            case rel => exact ⟨j + 1 + 1, by omega, by go_num, HGO.out HB.out⟩
            case measure => simp [intOf]; omega
    · obtain rfl : k = l.length := by omega
      go_wp2
      go_ret
      exact ⟨ret_bool (eventB_ok HN.out).symm, rfl⟩
/-- the sum of the counts at some outcomes -/
def ownI (l s : List Int) : Int := s.foldl (fun a i => a + l.getD i.toNat 0) 0
theorem ownI_snoc (l s : List Int) (k : Nat) (hk : k < s.length) : ownI l (s.take (k + 1)) = ownI l (s.take k) + l.getD s[k].toNat 0 := foldl_snoc _ _ _ _ hk
theorem ownI_bd (l s : List Int) (h : Counts l) : ∀ k, k ≤ s.length → 0 ≤ ownI l (s.take k) ∧ ownI l (s.take k) ≤ 1000000 * k
  | 0, _ => by simp [ownI]
  | k + 1, hk => by
    have ih := ownI_bd l s h k (by omega)
    have : 0 ≤ l.getD s[k].toNat 0 ∧ l.getD s[k].toNat 0 ≤ 1000000 := by
      by_cases e : s[k].toNat < l.length
      · have := h _ e; simpa [e] using this
      · simp [e]
    rw [ownI_snoc l s k (by omega)]; omega
theorem event_at {s : List Int} {n : Int} (h : eventB s n = true) {k : Nat} (hk : k < s.length) : 0 ≤ s[k] ∧ s[k] ≤ n - 1 := by
  have := List.all_eq_true.1 h k (List.mem_range.2 hk)
  simp only [evBad, Bool.not_or, Bool.and_eq_true, Bool.not_not] at this
  have := inR_iff.1 this.1
  simpa [hk] using this
def chanceOk (l s : List Int) (d : Int) : Bool := countedB l && eventB s l.length && inR d 1 1000
def lowC (l s : List Int) (d : Int) : Int := if s.length = 0 then ownI l s else if s.length = l.length then sumI l + d else ownI l s
def highC (l s : List Int) (d : Int) : Int := if s.length = 0 then 0 else ownI l s + d
def chanceV (l s : List Int) (d : Int) : Value := if chanceOk l s d then .tuple #[.agg #[.int .i64 (lowC l s d), .int .i64 (sumI l + d)], .agg #[.int .i64 (highC l s d), .int .i64 (sumI l + d)], .int .i64 0] else .tuple #[.agg #[.int .i64 0, .int .i64 0], .agg #[.int .i64 0, .int .i64 0], .int .i64 2]
end Go.Proofs.Ytjbgdpbeabakiaa
